/-
  PathValid, SendPath and FindPathSize of both packages: one Lean function each.
-/
import Derived.Test.YtjiebaidjflkjaaTime
import Derived.Test.YtjiebaidjflkjaaCopyInt
namespace Go.Proofs.Ytjiebaidjflkjaa
open Go.RowKit
set_option linter.unusedVariables false

def linksOk (zs : List Int) : Bool := zs.all fun z => inB z 1 100000
def pathV (zs : List Int) : Bool := linksOk zs && inB zs.length 1 10
theorem linksOk_take {zs : List Int} {k : Nat} (h : linksOk (zs.take k) = true) (hk : k < zs.length) (hz : inB (zs[k]?.getD 0) 1 100000 = true) : linksOk (zs.take (k + 1)) = true := by
  rw [take_succ_getD zs k hk]
  unfold linksOk at h ⊢
  rw [List.all_append, h]
  simpa using hz
theorem pathV_bad {zs : List Int} {k : Nat} (hk : k < zs.length) (hz : inB (zs[k]?.getD 0) 1 100000 = false) : pathV zs = false := by
  unfold pathV
  rw [Bool.and_eq_false_iff]
  left
  rw [Bool.eq_false_iff]
  intro h
  unfold linksOk at h
  rw [List.all_eq_true] at h
  have := h (zs[k]) (List.getElem_mem hk)
  rw [List.getElem?_eq_getElem hk] at hz
  simp at hz
  rw [hz] at this
  cases this
theorem pathV_end {zs : List Int} {n : Nat} (hn : zs.length = n) (h : linksOk (zs.take n) = true) : pathV zs = inB n 1 10 := by
  subst hn
  rw [List.take_length] at h
  unfold pathV
  rw [h, Bool.true_and]
theorem pathV_len {zs : List Int} (h : pathV zs = true) : 1 ≤ zs.length ∧ zs.length ≤ 10 := by
  unfold pathV at h
  have := inB_iff.1 (Bool.and_eq_true_iff.1 h).2
  omega
theorem pathV_at {zs : List Int} (h : pathV zs = true) {k : Nat} (hk : k < zs.length) : 1 ≤ zs[k]?.getD 0 ∧ zs[k]?.getD 0 ≤ 100000 := by
  unfold pathV linksOk at h
  have h1 := (Bool.and_eq_true_iff.1 h).1
  rw [List.all_eq_true] at h1
  have := h1 (zs[k]) (List.getElem_mem hk)
  rw [List.getElem?_eq_getElem hk]
  exact inB_iff.1 this

/-- What the first link lets through that lets less than s through; -1 if there is none. -/
def firstLess (s : Int) : List Int → Int
  | [] => -1
  | z :: r => if z < s then z else firstLess s r
theorem firstLess_drop (s : Int) (zs : List Int) (k : Nat) (h : k < zs.length) : firstLess s (zs.drop k) = if zs[k]?.getD 0 < s then zs[k]?.getD 0 else firstLess s (zs.drop (k + 1)) := by
  rw [List.drop_eq_getElem_cons h, firstLess, List.getElem?_eq_getElem h]
  rfl
theorem firstLess_cases (s : Int) (zs : List Int) : firstLess s zs = -1 ∨ (firstLess s zs < s ∧ firstLess s zs ∈ zs) := by
  induction zs with
  | nil => left; rfl
  | cons z r ih =>
    rw [firstLess]
    split
    · right; exact ⟨by assumption, by simp⟩
    · rcases ih with h | ⟨h1, h2⟩
      · left; exact h
      · right; exact ⟨h1, by simp [h2]⟩
theorem firstLess_bd {s : Int} {zs : List Int} (hv : pathV zs = true) (h : firstLess s zs ≠ -1) : 1 ≤ firstLess s zs ∧ firstLess s zs < s := by
  rcases firstLess_cases s zs with h1 | ⟨h1, h2⟩
  · exact absurd h1 h
  · refine ⟨?_, h1⟩
    unfold pathV linksOk at hv
    have h3 := (Bool.and_eq_true_iff.1 hv).1
    rw [List.all_eq_true] at h3
    exact (inB_iff.1 (h3 _ h2)).1
def sendOk (zs : List Int) (s : Int) : Bool := pathV zs && inB s 0 100000
def sendS (zs : List Int) (s : Int) : Int := if sendOk zs s then firstLess s zs else -2
theorem sendS_ok {zs : List Int} {s : Int} (h : sendOk zs s = true) : sendS zs s = firstLess s zs := by unfold sendS; rw [if_pos h]
theorem sendS_no {zs : List Int} {s : Int} (h : sendOk zs s = false) : sendS zs s = -2 := by unfold sendS; rw [if_neg (by rw [h]; simp)]
def FirstRel (zs : List Int) (s : Int) (k : Nat) : Prop := firstLess s zs = firstLess s (zs.drop k)
theorem FirstRel.start (zs : List Int) (s : Int) : FirstRel zs s 0 := by unfold FirstRel; simp
theorem FirstRel.next {zs : List Int} {s : Int} {k : Nat} (h : FirstRel zs s k) (hk : k < zs.length) (hz : ¬ zs[k]?.getD 0 < s) : FirstRel zs s (k + 1) := by
  unfold FirstRel at h ⊢
  rw [h, firstLess_drop s zs k hk, if_neg hz]
theorem FirstRel.hit {zs : List Int} {s : Int} {k : Nat} (h : FirstRel zs s k) (hk : k < zs.length) (hz : zs[k]?.getD 0 < s) : firstLess s zs = zs[k]?.getD 0 := by
  unfold FirstRel at h
  rw [h, firstLess_drop s zs k hk, if_pos hz]
theorem FirstRel.done {zs : List Int} {s : Int} (h : FirstRel zs s zs.length) : firstLess s zs = -1 := by
  unfold FirstRel at h
  rw [h, List.drop_length]; rfl

/-- The size that goes through at last, and how often it was tried in vain. -/
def findFrom (zs : List Int) : Nat → Int → Int → Int × Int
  | 0, s, v => (s, v)
  | f + 1, s, v => if firstLess s zs < 0 then (s, v) else findFrom zs f (firstLess s zs) (v + 1)
def findS (zs : List Int) (s : Int) : Int × Int := if sendOk zs s then findFrom zs (s.toNat + 1) s 0 else (-1, -1)
def FindRel (zs : List Int) (s0 s v : Int) : Prop := 0 ≤ v ∧ 0 ≤ s ∧ v + s ≤ 100000 ∧ ∃ f, s.toNat < f ∧ findFrom zs (s0.toNat + 1) s0 0 = findFrom zs f s v
theorem FindRel.start (zs : List Int) (s0 : Int) (h0 : 0 ≤ s0) (h1 : s0 ≤ 100000) : FindRel zs s0 s0 0 := ⟨by omega, h0, by omega, _, by omega, rfl⟩
theorem FindRel.next {zs : List Int} {s0 s v : Int} (h : FindRel zs s0 s v) (hn : 0 ≤ firstLess s zs) (hl : firstLess s zs < s) : FindRel zs s0 (firstLess s zs) (v + 1) := by
  obtain ⟨h1, h2, h3, f, hf, e⟩ := h
  refine ⟨by omega, hn, by omega, f - 1, by omega, ?_⟩
  rw [e]
  obtain ⟨g, rfl⟩ : ∃ g, f = g + 1 := ⟨f - 1, by omega⟩
  rw [findFrom, if_neg (by omega)]
  rfl
theorem FindRel.done {zs : List Int} {s0 s v : Int} (h : FindRel zs s0 s v) (hn : firstLess s zs < 0) : findFrom zs (s0.toNat + 1) s0 0 = (s, v) := by
  obtain ⟨h1, h2, h3, f, hf, e⟩ := h
  rw [e]
  obtain ⟨g, rfl⟩ : ∃ g, f = g + 1 := ⟨f - 1, by omega⟩
  rw [findFrom, if_pos hn]
theorem ret_int2 {a b a' b' : Int} (h : (a, b) = (a', b')) : Ending.returned (.tuple #[.int .i64 a, .int .i64 b]) = .returned (.tuple #[.int .i64 a', .int .i64 b']) := by
  simp only [Prod.mk.injEq] at h; rw [h.1, h.2]

theorem sPathValid_any (A : Option Addr) (n c : Nat) (zs : List Int) (w : World) {lo hi : Nat} (hs : Sl w lo hi 1 A n (zs.map (Value.int .i64))) (hn : n ≤ 9223372036854775807) :
    Calls Try.prog 15 #[.slice A n c] w fun e w' => e = .returned (.bool (pathV zs)) ∧ w = w' := by
  have HL := Lib.hid hs.len
  go_enter Try.func15, Try.ntmps15
  go_wp2
  go_loop [3] (fun i => ∃ k : Nat, k ≤ n ∧ i = .int .i64 k ∧ linksOk (zs.take k) = true) (fun i => n - (intOf i).toNat)
  case atStart => exact ⟨0, Nat.zero_le _, rfl, rfl⟩
  case round =>
    obtain ⟨k, hk, rfl, hr⟩ := hrel
    by_cases hlt : k < n
    · obtain ⟨b, off, rfl, _, _, hc, _⟩ := hs.Int hlt
      by_cases hz : inB (zs[k]?.getD 0) 1 100000 = true
      · have hnext := Lib.hid (linksOk_take hr (by rw [HL.out]; exact hlt) hz)
        clear hr
        go_wp2_with (go_at_call 39; refine (l1In_any _ _ _ _).mono ?_; rintro e w' ⟨rfl, rfl⟩)
        go_round
        case rel => exact ⟨k + 1, by omega, by go_num, hnext.out⟩
        case measure => simp [intOf]; omega
      · have hz' := Bool.eq_false_iff.2 hz
        have HE := Lib.hid (pathV_bad (zs := zs) (by rw [HL.out]; exact hlt) hz')
        clear hr hz
        go_wp2_with (go_at_call 39; refine (l1In_any _ _ _ _).mono ?_; rintro e w' ⟨rfl, rfl⟩)
        go_ret
        exact ⟨ret_bool HE.out.symm, rfl⟩
    · obtain rfl : n = k := by omega
      have HE := Lib.hid (pathV_end HL.out hr)
      clear hr
      go_wp2_with (go_at_call 39; refine (l1In_any _ _ _ _).mono ?_; rintro e w' ⟨rfl, rfl⟩)
      go_ret
      exact ⟨ret_bool HE.out.symm, rfl⟩

theorem sSend_any (A : Option Addr) (n c : Nat) (zs : List Int) (s : Int) (w : World) {lo hi : Nat} (hs : Sl w lo hi 1 A n (zs.map (Value.int .i64))) (hn : n ≤ 9223372036854775807) :
    Calls Try.prog 21 #[.slice A n c, .int .i64 s] w fun e w' => e = .returned (.int .i64 (sendS zs s)) ∧ w = w' := by
  have HL := Lib.hid hs.len
  by_cases hv : sendOk zs s = true
  · have HE := Lib.hid (sendS_ok hv)
    have hv1 : pathV zs = true := (Bool.and_eq_true_iff.1 hv).1
    have hv2 : inB s 0 100000 = true := (Bool.and_eq_true_iff.1 hv).2
    clear hv
    go_enter Try.func21, Try.ntmps21
    go_wp2_with (first | (go_at_call 15; refine (sPathValid_any _ _ _ zs _ hs hn).mono ?_; rintro e w' ⟨rfl, rfl⟩) | (go_at_call 39; refine (l1In_any _ _ _ _).mono ?_; rintro e w' ⟨rfl, rfl⟩))
    go_loop [5] (fun i => ∃ k : Nat, k ≤ n ∧ i = .int .i64 k ∧ FirstRel zs s k) (fun i => n - (intOf i).toNat)
    case atStart => exact ⟨0, Nat.zero_le _, rfl, FirstRel.start zs s⟩
    case round =>
      obtain ⟨k, hk, rfl, hr⟩ := hrel
      by_cases hlt : k < n
      · obtain ⟨b, off, rfl, _, _, hc, _⟩ := hs.Int hlt
        by_cases hz : zs[k]?.getD 0 < s
        · have HX := Lib.hid (HE.out.trans (hr.hit (by rw [HL.out]; exact hlt) hz))
          go_wp2
          go_ret
          exact ⟨ret_int HX.out.symm, rfl⟩
        · have hnext := hr.next (by rw [HL.out]; exact hlt) hz
          go_wp2
          go_round
          case rel => exact ⟨k + 1, by omega, by go_num, hnext⟩
          case measure => simp [intOf]; omega
      · obtain rfl : n = k := by omega
        have HX := Lib.hid (HE.out.trans (FirstRel.done (by rw [HL.out]; exact hr)))
        go_wp2
        go_ret
        exact ⟨ret_int HX.out.symm, rfl⟩
  · have HE := Lib.hid (sendS_no (Bool.eq_false_iff.2 hv))
    have HV := Lib.hid (Bool.eq_false_iff.2 hv)
    clear hv
    go_enter Try.func21, Try.ntmps21
    go_wp2_with (first | (go_at_call 15; refine (sPathValid_any _ _ _ zs _ hs hn).mono ?_; rintro e w' ⟨rfl, rfl⟩) | (go_at_call 39; refine (l1In_any _ _ _ _).mono ?_; rintro e w' ⟨rfl, rfl⟩))
    all_goals first | (go_ret; exact ⟨ret_int HE.out.symm, rfl⟩) | (exfalso; have hv := HV.out; unfold sendOk at hv; simp_all)

theorem sFind_any (A : Option Addr) (n c : Nat) (zs : List Int) (s : Int) (w : World) {lo hi : Nat} (hs : Sl w lo hi 1 A n (zs.map (Value.int .i64))) (hn : n ≤ 9223372036854775807) :
    Calls Try.prog 24 #[.slice A n c, .int .i64 s] w fun e w' => e = .returned (.tuple #[.int .i64 (findS zs s).1, .int .i64 (findS zs s).2]) ∧ w = w' := by
  by_cases hv : sendOk zs s = true
  · have HE : Hid (findS zs s = findFrom zs (s.toNat + 1) s 0) := Lib.hid (by unfold findS; rw [if_pos hv])
    have hv1 : pathV zs = true := (Bool.and_eq_true_iff.1 hv).1
    have hv2 : inB s 0 100000 = true := (Bool.and_eq_true_iff.1 hv).2
    have hb := inB_iff.1 hv2
    clear hv
    go_enter Try.func24, Try.ntmps24
    go_wp2_with (first | (go_at_call 15; refine (sPathValid_any _ _ _ zs _ hs hn).mono ?_; rintro e w' ⟨rfl, rfl⟩) | (go_at_call 39; refine (l1In_any _ _ _ _).mono ?_; rintro e w' ⟨rfl, rfl⟩))
    go_loop [1, 6] (fun a b => ∃ t v : Int, a = .int .i64 t ∧ b = .int .i64 v ∧ FindRel zs s t v) (fun a _ => (intOf a).toNat)
    case atStart => exact ⟨s, 0, rfl, rfl, FindRel.start zs s hb.1 hb.2⟩
    case round =>
      obtain ⟨t, v, rfl, rfl, hr⟩ := hrel
      have h1 := hr.1
      have h2 := hr.2.1
      have h3 := hr.2.2.1
      have HT := Lib.hid (sendS_ok (zs := zs) (s := t) (by unfold sendOk; rw [hv1, inB_true (by omega)]; rfl))
      obtain ⟨x, hx⟩ : ∃ x, firstLess t zs = x := ⟨_, rfl⟩
      by_cases hx0 : x = -1
      · have HD := Lib.hid (HE.out.trans (hr.done (by rw [hx, hx0]; omega)))
        have HS := Lib.hid (HT.out.trans (hx.trans hx0))
        subst hx0
        clear hx
        go_wp2_with (go_at_call 21; refine (sSend_any _ _ _ zs _ _ hs hn).mono ?_; rw [HS.out]; rintro e w' ⟨rfl, rfl⟩)
        go_ret2
        refine ⟨ret_int2 ?_, rfl⟩
        rw [HD.out]
      · have hbd := firstLess_bd (s := t) hv1 (by rw [hx]; exact hx0)
        rw [hx] at hbd
        have hnext := hr.next (by rw [hx]; omega) (by rw [hx]; omega)
        rw [hx] at hnext
        have HS := Lib.hid (HT.out.trans hx)
        clear hx
        go_wp2_with (go_at_call 21; refine (sSend_any _ _ _ zs _ _ hs hn).mono ?_; rw [HS.out]; rintro e w' ⟨rfl, rfl⟩)
        go_round
        case rel => exact ⟨x, v + 1, rfl, rfl, hnext⟩
        case measure => simp [intOf]; omega
  · have HE : Hid (findS zs s = (-1, -1)) := Lib.hid (by unfold findS; rw [if_neg hv])
    have HV := Lib.hid (Bool.eq_false_iff.2 hv)
    clear hv
    go_enter Try.func24, Try.ntmps24
    go_wp2_with (first | (go_at_call 15; refine (sPathValid_any _ _ _ zs _ hs hn).mono ?_; rintro e w' ⟨rfl, rfl⟩) | (go_at_call 39; refine (l1In_any _ _ _ _).mono ?_; rintro e w' ⟨rfl, rfl⟩))
    all_goals first | (go_ret2; exact ⟨ret_int2 HE.out.symm, rfl⟩) | (exfalso; have hv := HV.out; unfold sendOk at hv; simp_all)

theorem iPathValid_any (A : Option Addr) (n c : Nat) (zs : List Int) (w : World) {lo hi : Nat} (hs : Sl w lo hi 1 A n (zs.map (Value.int .i64))) (hn : n ≤ 9223372036854775807) :
    Calls Try.prog 17 #[.slice A n c] w fun e w' => e = .returned (.bool (pathV zs)) ∧ w = w' := by
  have HL := Lib.hid hs.len
  go_enter Try.func17, Try.ntmps17
  go_wp2
  go_loop [7] (fun i => ∃ k : Nat, k ≤ n ∧ i = .int .i64 k ∧ linksOk (zs.take k) = true) (fun i => n - (intOf i).toNat)
  case atStart => exact ⟨0, Nat.zero_le _, rfl, rfl⟩
  case round =>
    obtain ⟨k, hk, rfl, hr⟩ := hrel
    by_cases hlt : k < n
    · obtain ⟨b, off, rfl, _, _, hc, _⟩ := hs.Int hlt
      by_cases hz : inB (zs[k]?.getD 0) 1 100000 = true
      · have hnext := Lib.hid (linksOk_take hr (by rw [HL.out]; exact hlt) hz)
        clear hr
        go_wp2_with (go_at_call 40; refine (in_any _ _ _ _).mono ?_; rintro e w' ⟨rfl, rfl⟩)
        go_round
        case rel => exact ⟨k + 1, by omega, by go_num, hnext.out⟩
        case measure => simp [intOf]; omega
      · have hz' := Bool.eq_false_iff.2 hz
        have HE := Lib.hid (pathV_bad (zs := zs) (by rw [HL.out]; exact hlt) hz')
        clear hr hz
        go_wp2_with (go_at_call 40; refine (in_any _ _ _ _).mono ?_; rintro e w' ⟨rfl, rfl⟩)
        go_ret
        exact ⟨ret_bool HE.out.symm, rfl⟩
    · obtain rfl : n = k := by omega
      have HE := Lib.hid (pathV_end HL.out hr)
      clear hr
      go_wp2_with (go_at_call 40; refine (in_any _ _ _ _).mono ?_; rintro e w' ⟨rfl, rfl⟩)
      go_ret
      exact ⟨ret_bool HE.out.symm, rfl⟩

theorem iSend_any (A : Option Addr) (n c : Nat) (zs : List Int) (s : Int) (w : World) {lo hi : Nat} (hs : Sl w lo hi 1 A n (zs.map (Value.int .i64))) (hn : n ≤ 9223372036854775807) :
    Calls Try.prog 22 #[.slice A n c, .int .i64 s] w fun e w' => e = .returned (.int .i64 (sendS zs s)) ∧ w = w' := by
  have HL := Lib.hid hs.len
  by_cases hv : sendOk zs s = true
  · have HE := Lib.hid (sendS_ok hv)
    have hv1 : pathV zs = true := (Bool.and_eq_true_iff.1 hv).1
    have hv2 : inB s 0 100000 = true := (Bool.and_eq_true_iff.1 hv).2
    clear hv
    go_enter Try.func22, Try.ntmps22
    go_wp2_with (first | (go_at_call 17; refine (iPathValid_any _ _ _ zs _ hs hn).mono ?_; rintro e w' ⟨rfl, rfl⟩) | (go_at_call 44; refine (isTime_any _ _).mono ?_; rintro e w' ⟨rfl, rfl⟩))
    go_loop [17] (fun i => ∃ k : Nat, k ≤ n ∧ i = .int .i64 k ∧ FirstRel zs s k) (fun i => n - (intOf i).toNat)
    case atStart => exact ⟨0, Nat.zero_le _, rfl, FirstRel.start zs s⟩
    case round =>
      obtain ⟨k, hk, rfl, hr⟩ := hrel
      by_cases hlt : k < n
      · obtain ⟨b, off, rfl, _, _, hc, _⟩ := hs.Int hlt
        by_cases hz : zs[k]?.getD 0 < s
        · have HX := Lib.hid (HE.out.trans (hr.hit (by rw [HL.out]; exact hlt) hz))
          go_wp2
          go_ret
          exact ⟨ret_int HX.out.symm, rfl⟩
        · have hnext := hr.next (by rw [HL.out]; exact hlt) hz
          go_wp2
          go_round
          case rel => exact ⟨k + 1, by omega, by go_num, hnext⟩
          case measure => simp [intOf]; omega
      · obtain rfl : n = k := by omega
        have HX := Lib.hid (HE.out.trans (FirstRel.done (by rw [HL.out]; exact hr)))
        go_wp2
        go_ret
        exact ⟨ret_int HX.out.symm, rfl⟩
  · have HE := Lib.hid (sendS_no (Bool.eq_false_iff.2 hv))
    have HV := Lib.hid (Bool.eq_false_iff.2 hv)
    clear hv
    go_enter Try.func22, Try.ntmps22
    go_wp2_with (first | (go_at_call 17; refine (iPathValid_any _ _ _ zs _ hs hn).mono ?_; rintro e w' ⟨rfl, rfl⟩) | (go_at_call 44; refine (isTime_any _ _).mono ?_; rintro e w' ⟨rfl, rfl⟩))
    all_goals first | (go_ret; exact ⟨ret_int HE.out.symm, rfl⟩) | (exfalso; have hv := HV.out; unfold sendOk at hv; simp_all)

theorem iFind_any (A : Option Addr) (n c : Nat) (zs : List Int) (s : Int) (w : World) {lo hi : Nat} (hs : Sl w lo hi 1 A n (zs.map (Value.int .i64))) (hn : n ≤ 9223372036854775807) :
    Calls Try.prog 25 #[.slice A n c, .int .i64 s] w fun e w' => e = .returned (.tuple #[.int .i64 (findS zs s).1, .int .i64 (findS zs s).2]) ∧ w = w' := by
  by_cases hv : sendOk zs s = true
  · have HE : Hid (findS zs s = findFrom zs (s.toNat + 1) s 0) := Lib.hid (by unfold findS; rw [if_pos hv])
    have hv1 : pathV zs = true := (Bool.and_eq_true_iff.1 hv).1
    have hv2 : inB s 0 100000 = true := (Bool.and_eq_true_iff.1 hv).2
    have hb := inB_iff.1 hv2
    clear hv
    go_enter Try.func25, Try.ntmps25
    go_wp2_with (first | (go_at_call 17; refine (iPathValid_any _ _ _ zs _ hs hn).mono ?_; rintro e w' ⟨rfl, rfl⟩) | (go_at_call 44; refine (isTime_any _ _).mono ?_; rintro e w' ⟨rfl, rfl⟩))
    go_loop [1, 6] (fun a b => ∃ t v : Int, a = .int .i64 t ∧ b = .int .i64 v ∧ FindRel zs s t v) (fun a _ => (intOf a).toNat)
    case atStart => exact ⟨s, 0, rfl, rfl, FindRel.start zs s hb.1 hb.2⟩
    case round =>
      obtain ⟨t, v, rfl, rfl, hr⟩ := hrel
      have h1 := hr.1
      have h2 := hr.2.1
      have h3 := hr.2.2.1
      have HT := Lib.hid (sendS_ok (zs := zs) (s := t) (by unfold sendOk; rw [hv1, inB_true (by omega)]; rfl))
      obtain ⟨x, hx⟩ : ∃ x, firstLess t zs = x := ⟨_, rfl⟩
      by_cases hx0 : x = -1
      · have HD := Lib.hid (HE.out.trans (hr.done (by rw [hx, hx0]; omega)))
        have HS := Lib.hid (HT.out.trans (hx.trans hx0))
        subst hx0
        clear hx
        go_wp2_with (go_at_call 22; refine (iSend_any _ _ _ zs _ _ hs hn).mono ?_; rw [HS.out]; rintro e w' ⟨rfl, rfl⟩)
        go_ret2
        refine ⟨ret_int2 ?_, rfl⟩
        rw [HD.out]
      · have hbd := firstLess_bd (s := t) hv1 (by rw [hx]; exact hx0)
        rw [hx] at hbd
        have hnext := hr.next (by rw [hx]; omega) (by rw [hx]; omega)
        rw [hx] at hnext
        have HS := Lib.hid (HT.out.trans hx)
        clear hx
        go_wp2_with (go_at_call 22; refine (iSend_any _ _ _ zs _ _ hs hn).mono ?_; rw [HS.out]; rintro e w' ⟨rfl, rfl⟩)
        go_round
        case rel => exact ⟨x, v + 1, rfl, rfl, hnext⟩
        case measure => simp [intOf]; omega
  · have HE : Hid (findS zs s = (-1, -1)) := Lib.hid (by unfold findS; rw [if_neg hv])
    have HV := Lib.hid (Bool.eq_false_iff.2 hv)
    clear hv
    go_enter Try.func25, Try.ntmps25
    go_wp2_with (first | (go_at_call 17; refine (iPathValid_any _ _ _ zs _ hs hn).mono ?_; rintro e w' ⟨rfl, rfl⟩) | (go_at_call 44; refine (isTime_any _ _).mono ?_; rintro e w' ⟨rfl, rfl⟩))
    all_goals first | (go_ret2; exact ⟨ret_int2 HE.out.symm, rfl⟩) | (exfalso; have hv := HV.out; unfold sendOk at hv; simp_all)
end Go.Proofs.Ytjiebaidjflkjaa
