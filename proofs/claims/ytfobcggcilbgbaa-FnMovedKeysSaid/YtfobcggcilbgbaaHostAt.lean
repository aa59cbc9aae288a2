/-
  hostAt, HostState, CountOf, keysFit: their contracts.
-/
import Derived.Test.YtfobcggcilbgbaaHostBy
import Derived.Test.YtfobcggcilbgbaaCopyInt
namespace Go.Proofs.Ytfobcggcilbgbaa
open Go.RowKit
set_option linter.unusedVariables false

/-- The place of the host with a number, or -1. -/
def atH (hs : List H3) (x : Int) : Int := match hs.findIdx? (fun h => h.1 == x) with
  | some i => (i : Int)
  | none => -1
theorem atH_found {hs : List H3} {x : Int} {k : Nat} (hk : k < hs.length) (hj : ∀ j, j < k → (hAt hs j).1 ≠ x) (h : (hAt hs k).1 = x) : atH hs x = k := by
  have : hs.findIdx? (fun h => h.1 == x) = some k := by
    rw [List.findIdx?_eq_some_iff_getElem]
    refine ⟨hk, by rw [hAt_eq hk] at h; simpa using h, fun j hjk => ?_⟩
    have := hj j hjk
    rw [hAt_eq (by omega)] at this
    simpa using this
  unfold atH
  rw [this]
theorem atH_none {hs : List H3} {x : Int} (hj : ∀ j, j < hs.length → (hAt hs j).1 ≠ x) : atH hs x = -1 := by
  have : hs.findIdx? (fun h => h.1 == x) = none := by
    rw [List.findIdx?_eq_none_iff]
    intro y hy
    obtain ⟨j, hjl, rfl⟩ := List.mem_iff_getElem.1 hy
    have := hj j hjl
    rw [hAt_eq hjl] at this
    simpa using this
  unfold atH
  rw [this]
theorem atH_cases (hs : List H3) (x : Int) : (atH hs x = -1 ∧ ∀ j, j < hs.length → (hAt hs j).1 ≠ x) ∨ ∃ k, k < hs.length ∧ atH hs x = (k : Nat) ∧ (hAt hs k).1 = x ∧ ∀ j, j < k → (hAt hs j).1 ≠ x := by
  unfold atH
  cases h : hs.findIdx? (fun h => h.1 == x) with
  | none =>
    left
    refine ⟨rfl, fun j hj => ?_⟩
    rw [List.findIdx?_eq_none_iff] at h
    have := h _ (List.getElem_mem hj)
    rw [hAt_eq hj]
    simpa using this
  | some k =>
    right
    rw [List.findIdx?_eq_some_iff_getElem] at h
    obtain ⟨hk, h1, h2⟩ := h
    refine ⟨k, hk, rfl, by rw [hAt_eq hk]; simpa using h1, fun j hj => ?_⟩
    have := h2 j hj
    rw [hAt_eq (by omega)]
    simpa using this
theorem closH_any (a b c x : Int) (g : Nat) (w : World) (hc : w.cell? ⟨g, 0, none⟩ = some (.int .i64 x)) :
    Calls Try.prog 79 #[.agg #[.int .i64 a, .int .i64 b, .int .i64 c], .pointer (some ⟨g, 0, none⟩)] w fun e w' => e = .returned (.bool (a == x)) ∧ Below w.heap.size w w' := by
  have hg : g < w.heap.size := World.block_lt_of_cell? w _ hc
  go_enter Try.func79, Try.ntmps79
  go_wp2
  all_goals
    go_ret
    exact ⟨rfl, (Below.refl _ _).alloc (Nat.le_refl _) _⟩
set_option maxRecDepth 100000 in
set_option maxHeartbeats 800000 in
theorem indexH_any (A : Option Addr) (n c : Nat) (hs : List H3) (x : Int) (g : Nat) (w : World) {lo hi : Nat} (hS : Sl w lo hi 3 A n (hostsV hs)) (hhi : hi ≤ w.heap.size) (hn : n ≤ 1048576) (hc : w.cell? ⟨g, 0, none⟩ = some (.int .i64 x)) :
    Calls Try.prog 78 #[.slice A n c, .func (.func 79) #[] #[.pointer (some ⟨g, 0, none⟩)]] w fun e w' => e = .returned (.int .i64 (atH hs x)) ∧ Below w.heap.size w w' := by
  have HL := Lib.hid hS.hlen
  have hg : g < w.heap.size := World.block_lt_of_cell? w _ hc
  go_enter Try.func78, Try.ntmps78
  go_wp2
  go_loopw [8] (fun i wr => ∃ k : Nat, k ≤ n ∧ i = .int .i64 k ∧ (∀ j, j < k → (hAt hs j).1 ≠ x) ∧ Below w.heap.size w wr) (fun i _ => n - (intOf i).toNat)
  case atStart => exact ⟨0, Nat.zero_le _, rfl, fun j hj => absurd hj (by omega), Below.refl _ _⟩
  case round =>
    obtain ⟨k, hk, rfl, hj, hb⟩ := hrel
    have hz := hb.size
    have HJ := Lib.hid hj
    clear hj
    by_cases hlt : k < n
    · obtain ⟨b, off, rfl, _, _, c0, c1, c2⟩ := (hS.below hb hhi).host hlt
      have hlk : k < hs.length := by rw [HL.out]; exact hlt
      have hcr : wr.cell? ⟨g, 0, none⟩ = some (.int .i64 x) := (hb.cell (p := ⟨g, 0, none⟩) hg).trans hc
      obtain ⟨⟨h0, h1, h2⟩, hh⟩ : ∃ p, hAt hs k = p := ⟨_, rfl⟩
      rw [hh] at c0 c1 c2
      simp only at c0 c1 c2
      have HH := Lib.hid hh
      clear hh
      have hki : (0 : Int) ≤ (k : Int) := by omega
      have hki2 : (k : Int) < (n : Int) := by omega
      by_cases he : h0 = x
      · have hbb : (h0 == x) = true := by simpa using he
        have HE : RowKit.Hid (atH hs x = k) := Lib.hid (atH_found hlk HJ.out (by rw [HH.out]; exact he))
        clear he
        go_wp2_with (go_at_call 79; refine (closH_any _ _ _ x g _ hcr).mono ?_; rw [hbb]; rintro e w1 ⟨rfl, hb1⟩)
        go_ret
        exact ⟨ret_int HE.out.symm, hb.trans (hb1.mono hz)⟩
      · have hbb : (h0 == x) = false := by simpa using he
        have HN : RowKit.Hid (h0 ≠ x) := Lib.hid he
        clear he
        go_wp2_with (go_at_call 79; refine (closH_any _ _ _ x g _ hcr).mono ?_; rw [hbb]; rintro e w1 ⟨rfl, hb1⟩)
        go_roundw
        case rel => exact ⟨k + 1, by omega, by go_num, fun j hj => by
          rcases Nat.lt_or_ge j k with h | h
          · exact HJ.out j h
          · obtain rfl : j = k := by omega
            rw [HH.out]; exact HN.out, hb.trans (hb1.mono hz)⟩
        case measure => simp [intOf]; omega
    · obtain rfl : n = k := by omega
      have HE : RowKit.Hid (atH hs x = -1) := Lib.hid (atH_none (by rw [HL.out]; exact HJ.out))
      go_wp2
      go_ret
      exact ⟨ret_int HE.out.symm, hb⟩
theorem hostAt_any (A : Option Addr) (n c : Nat) (hs : List H3) (x : Int) (w : World) {lo hi : Nat} (hS : Sl w lo hi 3 A n (hostsV hs)) (hhi : hi ≤ w.heap.size) (hn : n ≤ 1048576) :
    Calls Try.prog 58 #[.slice A n c, .int .i64 x] w fun e w' => e = .returned (.int .i64 (atH hs x)) ∧ Below w.heap.size w w' := by
  have hb0 := (Below.refl w.heap.size w).alloc (Nat.le_refl _) (.cells #[.int .i64 x] 3)
  have hc0 := (Blk.new w 3 #[.int .i64 x]).cell 0
  have hS0 := hS.alloc hhi (.cells #[.int .i64 x] 3)
  have hcon := indexH_any A n c hs x w.heap.size (w.alloc (.cells #[.int .i64 x] 3)) hS0 (Nat.le_trans hhi (by simp)) hn hc0
  go_enter Try.func58, Try.ntmps58
  go_wp2_with (go_at_call 78; refine hcon.mono ?_; rintro e w1 ⟨rfl, hb1⟩)
  go_ret
  exact ⟨rfl, hb0.trans (hb1.mono (by simp))⟩
/-- The state of a host. -/
def stH (hs : List H3) (x : Int) : Int := if poolV hs = true ∧ 0 ≤ atH hs x then (hAt hs (atH hs x).toNat).2.2 else 0
set_option maxHeartbeats 800000 in
theorem iHostState_any (A : Option Addr) (n c : Nat) (hs : List H3) (x : Int) (w : World) {lo hi : Nat} (hS : Sl w lo hi 3 A n (hostsV hs)) (hhi : hi ≤ w.heap.size) (hn : n ≤ 1048576) :
    Calls Try.prog 18 #[.slice A n c, .int .i64 x] w fun e w' => e = .returned (.int .i64 (stH hs x)) ∧ Below w.heap.size w w' := by
  have HL := Lib.hid hS.hlen
  by_cases hv : poolV hs = true
  · rcases atH_cases hs x with ⟨h1, _⟩ | ⟨k, hk, h1, h2, _⟩
    · have HE : RowKit.Hid (stH hs x = 0) := Lib.hid (by unfold stH; rw [h1, if_neg (by omega)])
      have H1 := Lib.hid h1
      clear h1
      go_enter Try.func18, Try.ntmps18
      go_wp2_with (first | (go_at_call 58; refine (hostAt_any _ _ _ hs _ _ hS hhi hn).mono ?_; rw [H1.out]; rintro e w1 ⟨rfl, hb1⟩) | (go_at_call 19; refine (iPoolValid_any _ _ _ hs _ (hS.below hb1 hhi) (Nat.le_trans hhi hb1.size) hn).mono ?_; rw [hv]; rintro e w2 ⟨rfl, hb2⟩))
      go_ret
      exact ⟨ret_int HE.out.symm, hb1.trans (hb2.mono hb1.size)⟩
    · have HE : RowKit.Hid (stH hs x = (hAt hs k).2.2) := Lib.hid (by unfold stH; rw [h1, if_pos ⟨hv, by omega⟩, Int.toNat_natCast])
      have H1 := Lib.hid h1
      have hkn : k < n := by rw [← HL.out]; exact hk
      have hki : (0 : Int) ≤ (k : Int) := by omega
      have hki2 : (k : Int) < (n : Int) := by omega
      obtain ⟨z, hz⟩ : ∃ z, (hAt hs k).2.2 = z := ⟨_, rfl⟩
      rw [hz] at HE
      have HZ := Lib.hid hz
      clear h1 h2 hk hz
      go_enter Try.func18, Try.ntmps18
      go_wp2_with (first | (go_at_call 58; refine (hostAt_any _ _ _ hs _ _ hS hhi hn).mono ?_; rw [H1.out]; rintro e w1 ⟨rfl, hb1⟩) | (go_at_call 19; refine (iPoolValid_any _ _ _ hs _ (hS.below hb1 hhi) (Nat.le_trans hhi hb1.size) hn).mono ?_; rw [hv]; rintro e w2 ⟨rfl, hb2⟩; have hbb := hb1.trans (hb2.mono hb1.size); obtain ⟨b, off, rfl, _, _, _, _, c2⟩ := (hS.below hbb hhi).host hkn; rw [HZ.out] at c2))
      go_ret
      exact ⟨ret_int HE.out.symm, hbb⟩
  · have hv' := Bool.eq_false_iff.2 hv
    have HE : RowKit.Hid (stH hs x = 0) := Lib.hid (by unfold stH; rw [if_neg (fun h => hv h.1)])
    clear hv
    go_enter Try.func18, Try.ntmps18
    go_wp2_with (first | (go_at_call 58; refine (hostAt_any _ _ _ hs _ _ hS hhi hn).mono ?_; rintro e w1 ⟨rfl, hb1⟩) | (go_at_call 19; refine (iPoolValid_any _ _ _ hs _ (hS.below hb1 hhi) (Nat.le_trans hhi hb1.size) hn).mono ?_; rw [hv']; rintro e w2 ⟨rfl, hb2⟩))
    go_ret
    exact ⟨ret_int HE.out.symm, hb1.trans (hb2.mono hb1.size)⟩
/-! ### CountOf, keysFit -/
def cntL (zs : List Int) (x : Int) : Nat := zs.countP (fun z => z == x)
theorem cntL_snoc (zs : List Int) (y x : Int) : cntL (zs ++ [y]) x = cntL zs x + if y = x then 1 else 0 := by
  unfold cntL
  rw [List.countP_append]
  by_cases h : y = x <;> simp [h]
theorem cntL_le (zs : List Int) (x : Int) : cntL zs x ≤ zs.length := List.countP_le_length
theorem iCountOf_any (A : Option Addr) (n c : Nat) (x : Int) (zs : List Int) (w : World) {lo hi : Nat} (hS : Sl w lo hi 1 A n (zs.map (Value.int .i64))) (hn : n ≤ 1048577) :
    Calls Try.prog 30 #[.slice A n c, .int .i64 x] w fun e w' => e = .returned (.int .i64 (cntL zs x : Nat)) ∧ w = w' := by
  have HL := Lib.hid hS.len
  go_enter Try.func30, Try.ntmps30
  go_wp2
  go_loop [5, 10] (fun s i => ∃ k : Nat, k ≤ n ∧ i = .int .i64 k ∧ s = .int .i64 (cntL (zs.take k) x : Nat)) (fun _ i => n - (intOf i).toNat)
  case atStart => exact ⟨0, Nat.zero_le _, rfl, rfl⟩
  case round =>
    obtain ⟨k, hk, rfl, rfl⟩ := hrel
    have hcl : cntL (zs.take k) x ≤ 1048577 := by have := cntL_le (zs.take k) x; have := List.length_take_le k zs; omega
    by_cases hlt : k < n
    · obtain ⟨b, off, rfl, _, _, c0⟩ := hS.num hlt
      have HT := Lib.hid (take_succ_getD zs k (by rw [HL.out]; exact hlt))
      obtain ⟨y, hy⟩ : ∃ y, zs[k]?.getD 0 = y := ⟨_, rfl⟩
      rw [hy] at c0
      have HY := Lib.hid hy
      clear hy
      by_cases he : y = x
      · have HE : RowKit.Hid (cntL (zs.take (k + 1)) x = cntL (zs.take k) x + 1) := Lib.hid (by rw [HT.out, HY.out, cntL_snoc, if_pos he])
        have hb : (y == x) = true := by simpa using he
        clear he
        go_wp2
        go_round
        case rel => exact ⟨k + 1, by omega, by go_num, by rw [HE.out]; go_num⟩
        case measure => simp [intOf]; omega
      · have HE : RowKit.Hid (cntL (zs.take (k + 1)) x = cntL (zs.take k) x) := Lib.hid (by rw [HT.out, HY.out, cntL_snoc, if_neg he, Nat.add_zero])
        have hb : (y == x) = false := by simpa using he
        clear he
        go_wp2
        go_round
        case rel => exact ⟨k + 1, by omega, by go_num, by rw [HE.out]⟩
        case measure => simp [intOf]; omega
    · obtain rfl : n = k := by omega
      have HE : RowKit.Hid (zs.take n = zs) := Lib.hid (List.take_of_length_le (by rw [HL.out]; exact Nat.le_refl _))
      go_wp2
      go_ret
      rw [HE.out]
      exact ⟨rfl, rfl⟩
theorem sCountOf_any (A : Option Addr) (n c : Nat) (x : Int) (zs : List Int) (w : World) {lo hi : Nat} (hS : Sl w lo hi 1 A n (zs.map (Value.int .i64))) (hn : n ≤ 1048577) :
    Calls Try.prog 64 #[.slice A n c, .int .i64 x] w fun e w' => e = .returned (.int .i64 (cntL zs x : Nat)) ∧ w = w' := by
  have HL := Lib.hid hS.len
  go_enter Try.func64, Try.ntmps64
  go_wp2
  go_loop [5, 6] (fun s i => ∃ k : Nat, k ≤ n ∧ i = .int .i64 k ∧ s = .int .i64 (cntL (zs.take k) x : Nat)) (fun _ i => n - (intOf i).toNat)
  case atStart => exact ⟨0, Nat.zero_le _, rfl, rfl⟩
  case round =>
    obtain ⟨k, hk, rfl, rfl⟩ := hrel
    have hcl : cntL (zs.take k) x ≤ 1048577 := by have := cntL_le (zs.take k) x; have := List.length_take_le k zs; omega
    by_cases hlt : k < n
    · obtain ⟨b, off, rfl, _, _, c0⟩ := hS.num hlt
      have HT := Lib.hid (take_succ_getD zs k (by rw [HL.out]; exact hlt))
      obtain ⟨y, hy⟩ : ∃ y, zs[k]?.getD 0 = y := ⟨_, rfl⟩
      rw [hy] at c0
      have HY := Lib.hid hy
      clear hy
      by_cases he : y = x
      · have HE : RowKit.Hid (cntL (zs.take (k + 1)) x = cntL (zs.take k) x + 1) := Lib.hid (by rw [HT.out, HY.out, cntL_snoc, if_pos he])
        have hb : (y == x) = true := by simpa using he
        clear he
        go_wp2
        go_round
        case rel => exact ⟨k + 1, by omega, by go_num, by rw [HE.out]; go_num⟩
        case measure => simp [intOf]; omega
      · have HE : RowKit.Hid (cntL (zs.take (k + 1)) x = cntL (zs.take k) x) := Lib.hid (by rw [HT.out, HY.out, cntL_snoc, if_neg he, Nat.add_zero])
        have hb : (y == x) = false := by simpa using he
        clear he
        go_wp2
        go_round
        case rel => exact ⟨k + 1, by omega, by go_num, by rw [HE.out]⟩
        case measure => simp [intOf]; omega
    · obtain rfl : n = k := by omega
      have HE : RowKit.Hid (zs.take n = zs) := Lib.hid (List.take_of_length_le (by rw [HL.out]; exact Nat.le_refl _))
      go_wp2
      go_ret
      rw [HE.out]
      exact ⟨rfl, rfl⟩
def fitK (way : Int) (ks : List Int) : Bool := ks.all keyV && decide ((ks.length : Int) ≤ 60) && inB way 1 4
theorem keysFit_any (way : Int) (A : Option Addr) (n c : Nat) (ks : List Int) (w : World) {lo hi : Nat} (hS : Sl w lo hi 1 A n (ks.map (Value.int .i64))) (hn : n ≤ 1048577) :
    Calls Try.prog 60 #[.int .i64 way, .slice A n c] w fun e w' => e = .returned (.bool (fitK way ks)) ∧ w = w' := by
  have HL := Lib.hid hS.len
  go_enter Try.func60, Try.ntmps60
  go_wp2
  go_loop [9] (fun i => ∃ k : Nat, k ≤ n ∧ i = .int .i64 k ∧ (∀ j, j < k → keyV (ks[j]?.getD 0) = true)) (fun i => n - (intOf i).toNat)
  case atStart => exact ⟨0, Nat.zero_le _, rfl, fun j hj => absurd hj (by omega)⟩
  case round =>
    obtain ⟨k, hk, rfl, hj⟩ := hrel
    have HJ := Lib.hid hj
    clear hj
    by_cases hlt : k < n
    · obtain ⟨b, off, rfl, _, _, c0⟩ := hS.num hlt
      have hlk : k < ks.length := by rw [HL.out]; exact hlt
      obtain ⟨y, hy⟩ : ∃ y, ks[k]?.getD 0 = y := ⟨_, rfl⟩
      rw [hy] at c0
      have HY := Lib.hid hy
      clear hy
      by_cases hv : keyV y = true
      · go_wp2_with (go_at_call 44; refine (isKey_any _ _).mono ?_; rw [hv]; rintro e w' ⟨rfl, rfl⟩)
        go_round
        case rel => exact ⟨k + 1, by omega, by go_num, fun j hj => by
          rcases Nat.lt_or_ge j k with h | h
          · exact HJ.out j h
          · obtain rfl : j = k := by omega
            rw [HY.out]; exact hv⟩
        case measure => simp [intOf]; omega
      · have hv' := Bool.eq_false_iff.2 hv
        have HE : RowKit.Hid (fitK way ks = false) := Lib.hid (by
          have : ks.all keyV = false := by
            rw [List.all_eq_false]
            refine ⟨ks[k], List.getElem_mem hlk, ?_⟩
            have := HY.out
            rw [List.getElem?_eq_getElem hlk] at this
            simp at this
            rw [this]
            exact hv
          unfold fitK
          rw [this]
          rfl)
        clear hv
        go_wp2_with (go_at_call 44; refine (isKey_any _ _).mono ?_; rw [hv']; rintro e w' ⟨rfl, rfl⟩)
        go_ret
        exact ⟨ret_bool HE.out.symm, rfl⟩
    · obtain rfl : n = k := by omega
      have hall : ks.all keyV = true := by
        rw [List.all_eq_true]
        intro y hy
        obtain ⟨j, hjl, rfl⟩ := List.mem_iff_getElem.1 hy
        have := HJ.out j (by rw [← HL.out]; exact hjl)
        rw [List.getElem?_eq_getElem hjl] at this
        exact this
      have HE : RowKit.Hid (fitK way ks = (decide ((n : Int) ≤ 60) && inB way 1 4)) := Lib.hid (by unfold fitK; rw [hall, HL.out, Bool.true_and])
      clear hall
      by_cases h60 : (n : Int) ≤ 60
      · have HE2 : RowKit.Hid (fitK way ks = inB way 1 4) := Lib.hid (by rw [HE.out]; simp [h60])
        go_wp2_with (go_at_call 59; refine (in_any _ _ _ _).mono ?_; rintro e w' ⟨rfl, rfl⟩)
        go_ret
        exact ⟨ret_bool HE2.out.symm, rfl⟩
      · have HE2 : RowKit.Hid (fitK way ks = false) := Lib.hid (by rw [HE.out]; simp; omega)
        go_wp2_with (go_at_call 59; refine (in_any _ _ _ _).mono ?_; rintro e w' ⟨rfl, rfl⟩)
        go_ret
        exact ⟨ret_bool HE2.out.symm, rfl⟩
end Go.Proofs.Ytfobcggcilbgbaa
