/-
  RampPool of both packages: one Lean function.
-/
import Derived.Test.YtnhodloclonfdaaPool
import Derived.Test.YtnhodloclonfdaaRampA
import Derived.Test.YtnhodloclonfdaaCopyInt
import Derived.Test.YtnhodloclonfdaaAppend
import Derived.Test.YtnhodloclonfdaaRetOwn
namespace Go.Proofs.Ytnhodloclonfdaa
open Go.RowKit
set_option linter.unusedVariables false

def rampHost (now ramp : Int) (h : H3) (s : Int) : H3 := (h.1, rampW h.2.1 (now - s) ramp, h.2.2)
def rampPOk (hs : List H3) (ss : List Int) (now ramp : Int) : Bool := poolV hs && decide (ss.length = hs.length) && inB now 0 100000 && inB ramp 1 100000
def sinceOk (ss : List Int) (now : Int) : Bool := ss.all fun s => inB s 0 now
def rampP (hs : List H3) (ss : List Int) (now ramp : Int) : List H3 := if rampPOk hs ss now ramp && sinceOk ss now then List.zipWith (rampHost now ramp) hs ss else []
theorem rampP_bad {hs : List H3} {ss : List Int} {now ramp : Int} (h : rampPOk hs ss now ramp = false) : rampP hs ss now ramp = [] := by unfold rampP; rw [h]; rfl
theorem sinceOk_bad {ss : List Int} {now : Int} {k : Nat} (hk : k < ss.length) (hz : inB (ss[k]?.getD 0) 0 now = false) : sinceOk ss now = false := by
  rw [Bool.eq_false_iff]
  intro h
  unfold sinceOk at h
  rw [List.all_eq_true] at h
  have := h (ss[k]) (List.getElem_mem hk)
  rw [List.getElem?_eq_getElem hk] at hz
  simp at hz
  rw [hz] at this
  cases this
theorem rampP_late {hs : List H3} {ss : List Int} {now ramp : Int} {k : Nat} (hk : k < ss.length) (hz : inB (ss[k]?.getD 0) 0 now = false) : rampP hs ss now ramp = [] := by unfold rampP; rw [sinceOk_bad hk hz, Bool.and_false]; rfl
theorem rampP_good {hs : List H3} {ss : List Int} {now ramp : Int} (h : rampPOk hs ss now ramp = true) (h2 : sinceOk ss now = true) : rampP hs ss now ramp = List.zipWith (rampHost now ramp) hs ss := by unfold rampP; rw [h, h2]; rfl
theorem sinceOk_take {ss : List Int} {now : Int} {k : Nat} (h : sinceOk (ss.take k) now = true) (hk : k < ss.length) (hz : inB (ss[k]?.getD 0) 0 now = true) : sinceOk (ss.take (k + 1)) now = true := by
  rw [take_succ_getD ss k hk]
  unfold sinceOk at h ⊢
  rw [List.all_append, h]
  simpa using hz
/-- The first k hosts ramped, the others as they were. -/
def mixP (hs : List H3) (ss : List Int) (now ramp : Int) (k : Nat) : List H3 := (List.zipWith (rampHost now ramp) hs ss).take k ++ hs.drop k
theorem mixP_zero (hs : List H3) (ss : List Int) (now ramp : Int) : mixP hs ss now ramp 0 = hs := by simp [mixP]
theorem mixP_length {hs : List H3} {ss : List Int} {now ramp : Int} {k : Nat} (h : ss.length = hs.length) (hk : k ≤ hs.length) : (mixP hs ss now ramp k).length = hs.length := by
  unfold mixP; simp [List.length_zipWith]; omega
theorem mixP_full {hs : List H3} {ss : List Int} {now ramp : Int} (h : ss.length = hs.length) : mixP hs ss now ramp hs.length = List.zipWith (rampHost now ramp) hs ss := by
  unfold mixP
  rw [List.drop_length, List.append_nil, List.take_of_length_le (by simp [List.length_zipWith]; omega)]
theorem mixP_at {hs : List H3} {ss : List Int} {now ramp : Int} {k : Nat} (h : ss.length = hs.length) (hk : k < hs.length) : hAt (mixP hs ss now ramp k) k = hAt hs k := by
  unfold hAt mixP
  rw [List.getElem?_append_right (by simp [List.length_zipWith]; omega)]
  simp [List.length_zipWith, h]
  rw [show min k hs.length = k from by omega]
  simp
theorem zip_at {hs : List H3} {ss : List Int} {now ramp : Int} {k : Nat} (h : ss.length = hs.length) (hk : k < hs.length) : (List.zipWith (rampHost now ramp) hs ss)[k]? = some (rampHost now ramp (hAt hs k) (ss[k]?.getD 0)) := by
  have hk2 : k < ss.length := by omega
  rw [List.getElem?_zipWith, List.getElem?_eq_getElem hk, List.getElem?_eq_getElem hk2, hAt_eq hk]
  rfl
theorem mixP_set {hs : List H3} {ss : List Int} {now ramp : Int} {k : Nat} (h : ss.length = hs.length) (hk : k < hs.length) :
    (mixP hs ss now ramp k).set k (rampHost now ramp (hAt hs k) (ss[k]?.getD 0)) = mixP hs ss now ramp (k + 1) := by
  apply List.ext_getElem?
  intro j
  rw [List.getElem?_set]
  by_cases hj : k = j
  · subst hj
    rw [if_pos rfl, if_pos (by rw [mixP_length h (by omega)]; exact hk)]
    unfold mixP
    rw [List.getElem?_append_left (by simp [List.length_zipWith]; omega), List.getElem?_take, if_pos (by omega), zip_at h hk]
  · rw [if_neg hj]
    unfold mixP
    have l1 : ((List.zipWith (rampHost now ramp) hs ss).take k).length = k := by simp [List.length_zipWith]; omega
    have l2 : ((List.zipWith (rampHost now ramp) hs ss).take (k + 1)).length = k + 1 := by simp [List.length_zipWith]; omega
    by_cases hjk : j < k
    · rw [List.getElem?_append_left (by omega), List.getElem?_append_left (by omega), List.getElem?_take, List.getElem?_take, if_pos hjk, if_pos (by omega)]
    · rw [List.getElem?_append_right (by omega), List.getElem?_append_right (by omega), l1, l2, List.getElem?_drop, List.getElem?_drop]
      congr 1
      omega
theorem hostsV_set1 (hs : List H3) : ∀ (k : Nat) (y : Int), k < hs.length → (hostsV hs).set (k * 3 + 1) (.int .i64 y) = hostsV (hs.set k ((hAt hs k).1, y, (hAt hs k).2.2)) := by
  induction hs with
  | nil => intro k y h; simp at h
  | cons h r ih =>
    intro k y hk
    cases k with
    | zero => simp [hostsV, hostC, hAt]
    | succ k =>
      have e0 : (k + 1) * 3 + 1 = k * 3 + 1 + 1 + 1 + 1 := by omega
      rw [e0]
      have := ih k y (by simpa using hk)
      have e : hAt (h :: r) (k + 1) = hAt r k := by simp [hAt]
      simp only [List.set_cons_succ, hostsV, hostC, List.cons_append, List.nil_append, e]
      rw [← this]
theorem hosts_one (hs : List H3) : ∀ u ∈ hostsV hs, u.oneCell' = true := by
  induction hs with
  | nil => intro u h; simp [hostsV] at h
  | cons x r ih =>
    intro u h
    simp [hostsV, hostC] at h
    rcases h with rfl | rfl | rfl | h
    · rfl
    · rfl
    · rfl
    · exact ih u h

set_option maxHeartbeats 1600000 in
theorem iRampPool_any (A : Option Addr) (n c : Nat) (hs : List H3) (A' : Option Addr) (n' c' : Nat) (ss : List Int) (now ramp : Int) (w : World) {lo hi lo' hi' : Nat} (hS : Sl w lo hi 3 A n (hostsV hs)) (hS' : Sl w lo' hi' 1 A' n' (ss.map (Value.int .i64)))
    (hhi : hi ≤ w.heap.size) (hhi' : hi' ≤ w.heap.size) (hn : n ≤ 1048576) (hn' : n' ≤ 1048576) :
    Calls Try.prog 29 #[.slice A n c, .slice A' n' c', .int .i64 now, .int .i64 ramp] w (RetOwn w 57 3 (rampP hs ss now ramp).length (hostsV (rampP hs ss now ramp))) := by
  have HL := Lib.hid hS.hlen
  have HL' := Lib.hid hS'.len
  obtain ⟨i0, hi0, hz0, hz1, hz2⟩ := info_parts infoHost
  by_cases hv : rampPOk hs ss now ramp = true
  · have hv' := hv
    unfold rampPOk at hv'
    simp only [Bool.and_eq_true, decide_eq_true_eq] at hv'
    obtain ⟨⟨⟨v0, v1⟩, v2⟩, v3⟩ := hv'
    have HLL := Lib.hid v1
    rw [HL.out, HL'.out] at v1
    subst v1
    have d0 : ((n' : Int) != (n' : Int)) = false := by simp
    have HV := Lib.hid hv
    have b2 := inB_iff.1 v2
    clear hv
    go_enter Try.func29, Try.ntmps29
    go_wp2_with (first | (go_at_call 37; refine (iPoolValid_any _ _ _ hs _ hS hhi hn).mono ?_; rw [v0]; rintro e w1 ⟨rfl, hb1⟩) | (go_at_call 48; refine (isTime_any _ _).mono ?_; rw [v2]; rintro e w' ⟨rfl, rfl⟩) | (go_at_call 40; refine (in_any _ _ _ _).mono ?_; rw [v3]; rintro e w' ⟨rfl, rfl⟩) | (at_builtin; refine wpList_append_sl _ rfl _ _ 45 rfl w.heap.size 57 i0 _ 3 24 Try.underlying45 hi0 hz0 hz1 hz2 rfl (by decide) (.slice none 0 0) 0 [] rfl (World.ownsRow_nil _ _ _ _) lo hi A n' c (hostsV hs) rfl (hS.below hb1 hhi) (hosts_one hs) (by unfold maxLen; omega) (by omega) hb1.size ?_; intro v w2 hown2 hg2 hat2))
    simp only [Nat.zero_add, List.nil_append] at hown2
    have hb2 := below_append hb1 (World.ownsRow_nil w1 w.heap.size 57 3) hg2
    clear hat2
    go_loopw [36] (fun i wr => ∃ k : Nat, k ≤ n' ∧ i = .int .i64 k ∧ wr.ownsRow w.heap.size 57 3 v n' (hostsV (mixP hs ss now ramp k)) ∧ sinceOk (ss.take k) now = true ∧ Below w.heap.size w wr) (fun i _ => n' - (intOf i).toNat)
    case atStart => exact ⟨0, Nat.zero_le _, rfl, by rw [mixP_zero]; exact hown2, rfl, hb2⟩
    case round =>
      obtain ⟨k, hk, rfl, hown, hso, hb⟩ := hrel
      by_cases hlt : k < n'
      · obtain ⟨b', off', rfl, _, _, cs, _⟩ := (hS'.below hb hhi').Int hlt
        obtain ⟨b, off, rfl, _, _, c0, c1, c2⟩ := (hS.below hb hhi).host hlt
        have hlk : k < hs.length := by rw [HL.out]; exact hlt
        have hlk' : k < ss.length := by rw [HL'.out]; exact hlt
        by_cases hz : inB (ss[k]?.getD 0) 0 now = true
        · have hso' := Lib.hid (sinceOk_take hso hlk' hz)
          have hset2 := mixP_set (now := now) (ramp := ramp) HLL.out hlk
          obtain ⟨s, hse⟩ : ∃ s, ss[k]?.getD 0 = s := ⟨_, rfl⟩
          rw [hse] at hz hset2 cs
          have hbz := inB_iff.1 hz
          have hset := hostsV_set1 (mixP hs ss now ramp k) k (rampHost now ramp (hAt hs k) s).2.1 (by rw [mixP_length HLL.out (by omega)]; exact hlk)
          rw [mixP_at HLL.out hlk] at hset
          have HS := Lib.hid (hset.trans (congrArg hostsV hset2))
          obtain ⟨g, cap, hv, hg0, hg1⟩ := hown.form (by omega)
          subst hv
          obtain ⟨x0, x1, x2⟩ := hostsV_at (mixP hs ss now ramp k) k (by rw [mixP_length HLL.out (by omega)]; exact hlk)
          have d1 := (hown.cellAt (k * 3 + 1) (by omega)).trans x1
          have df := hown.frozenAt
          obtain ⟨⟨h0, h1, h2⟩, hh⟩ : ∃ p, hAt hs k = p := ⟨_, rfl⟩
          rw [hh] at c0 c1 c2 HS
          have hst := (hown.stored (k * 3 + 1) (.int .i64 (rampW h1 (now - s) ramp))).1
          have hst2 : (wr.setCell ⟨g, k * 3 + 1, none⟩ (.int .i64 (rampW h1 (now - s) ramp))).ownsRow w.heap.size 57 3 (.slice (some ⟨g, 0, none⟩) n' cap) n' (hostsV (mixP hs ss now ramp (k + 1))) := by
            rw [← HS.out]; exact hst
          have hb3 := hb.setCell (p := ⟨g, k * 3 + 1, none⟩) hg0 (.int .i64 (rampW h1 (now - s) ramp))
          clear hset hset2 x0 x1 x2 hso hst hse hlk' hlk hh
          go_wp2_with (first | (go_at_call 40; refine (in_any _ _ _ _).mono ?_; rintro e w' ⟨rfl, rfl⟩) | (go_at_call 49; refine (iRamp_any _ _ _ _).mono ?_; rintro e w' ⟨rfl, rfl⟩))
          go_roundw
          case rel => exact ⟨k + 1, by omega, by go_num, hst2, hso'.out, hb3⟩
          case measure => simp [intOf]; omega
        · have hz' := Bool.eq_false_iff.2 hz
          have HE := Lib.hid (rampP_late (hs := hs) (ramp := ramp) hlk' hz')
          obtain ⟨s, hse⟩ : ∃ s, ss[k]?.getD 0 = s := ⟨_, rfl⟩
          rw [hse] at hz' cs
          clear hz hso hlk' hlk hse
          go_wp2_with (first | (go_at_call 40; refine (in_any _ _ _ _).mono ?_; rintro e w' ⟨rfl, rfl⟩))
          go_ret
          rw [HE.out]
          exact RetOwn.mk (World.ownsRow_nil _ _ _ _) hb
      · obtain rfl : n' = k := by omega
        have hss : sinceOk ss now = true := by rw [← HL'.out, List.take_length] at hso; exact hso
        have HE := Lib.hid (rampP_good HV.out hss)
        have HF := Lib.hid (mixP_full (now := now) (ramp := ramp) HLL.out)
        rw [HL.out] at HF
        clear hso hss
        go_wp2
        go_ret
        rw [HE.out, ← HF.out]
        have hlen := mixP_length (now := now) (ramp := ramp) (k := n') HLL.out (by rw [HL.out]; exact Nat.le_refl _)
        rw [HL.out] at hlen
        rw [hlen]
        exact RetOwn.mk hown hb
  · have HE := Lib.hid (rampP_bad (Bool.eq_false_iff.2 hv))
    rw [HE.out]
    by_cases v0 : poolV hs = true
    · by_cases v1 : n' = n
      · subst v1
        have d0 : ((n' : Int) != (n' : Int)) = false := by simp
        by_cases v2 : inB now 0 100000 = true
        · have v3 : inB ramp 1 100000 = false := by
            unfold rampPOk at hv
            rw [v0, v2, HL.out, HL'.out] at hv
            simpa using hv
          clear hv
          go_enter Try.func29, Try.ntmps29
          go_wp2_with (first | (go_at_call 37; refine (iPoolValid_any _ _ _ hs _ hS hhi hn).mono ?_; rw [v0]; rintro e w1 ⟨rfl, hb1⟩) | (go_at_call 48; refine (isTime_any _ _).mono ?_; rw [v2]; rintro e w' ⟨rfl, rfl⟩) | (go_at_call 40; refine (in_any _ _ _ _).mono ?_; rw [v3]; rintro e w' ⟨rfl, rfl⟩))
          go_ret
          exact RetOwn.mk (World.ownsRow_nil _ _ _ _) hb1
        · have v2' := Bool.eq_false_iff.2 v2
          clear hv v2
          go_enter Try.func29, Try.ntmps29
          go_wp2_with (first | (go_at_call 37; refine (iPoolValid_any _ _ _ hs _ hS hhi hn).mono ?_; rw [v0]; rintro e w1 ⟨rfl, hb1⟩) | (go_at_call 48; refine (isTime_any _ _).mono ?_; rw [v2']; rintro e w' ⟨rfl, rfl⟩))
          go_ret
          exact RetOwn.mk (World.ownsRow_nil _ _ _ _) hb1
      · have d0 : ((n' : Int) != (n : Int)) = true := by simp; omega
        clear hv
        go_enter Try.func29, Try.ntmps29
        go_wp2_with (first | (go_at_call 37; refine (iPoolValid_any _ _ _ hs _ hS hhi hn).mono ?_; rw [v0]; rintro e w1 ⟨rfl, hb1⟩))
        go_ret
        exact RetOwn.mk (World.ownsRow_nil _ _ _ _) hb1
    · have v0' := Bool.eq_false_iff.2 v0
      clear hv v0
      go_enter Try.func29, Try.ntmps29
      go_wp2_with (first | (go_at_call 37; refine (iPoolValid_any _ _ _ hs _ hS hhi hn).mono ?_; rw [v0']; rintro e w1 ⟨rfl, hb1⟩))
      go_ret
      exact RetOwn.mk (World.ownsRow_nil _ _ _ _) hb1
end Go.Proofs.Ytnhodloclonfdaa
