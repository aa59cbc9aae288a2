/-
  RingHost, SlotHost, JumpBucket, JumpHost of both packages.
-/
import Derived.Test.YtfobcggcilbgbaaRdvS
import Derived.Test.YtfobcggcilbgbaaRec
namespace Go.Proofs.Ytfobcggcilbgbaa
open Go.RowKit
set_option linter.unusedVariables false

abbrev Pt2 := Int × Int
def ptC (p : Pt2) : List Value := [.int .i64 p.1, .int .i64 p.2]
theorem ptC_len (p : Pt2) : (ptC p).length = 2 := rfl
abbrev ptsV (r : List Pt2) : List Value := recV ptC r
def ptAt (r : List Pt2) (k : Nat) : Pt2 := r[k]?.getD (0, 0)
theorem ptAt_eq {r : List Pt2} {k : Nat} (h : k < r.length) : ptAt r k = r[k] := by unfold ptAt; rw [List.getElem?_eq_getElem h]; rfl
theorem Sl.plen {w : World} {lo hi n : Nat} {A : Option Addr} {r : List Pt2} (h : Sl w lo hi 2 A n (ptsV r)) : r.length = n := by
  have := h.1; rw [recV_length ptC_len] at this; omega
theorem Sl.pt {w : World} {lo hi n : Nat} {A : Option Addr} {r : List Pt2} (h : Sl w lo hi 2 A n (ptsV r)) {k : Nat} (hk : k < n) :
    ∃ b off, A = some ⟨b, off, none⟩ ∧ lo ≤ b ∧ b < hi ∧ w.cell? ⟨b, off + k * 2, none⟩ = some (.int .i64 (ptAt r k).1) ∧ w.cell? ⟨b, off + k * 2 + 1, none⟩ = some (.int .i64 (ptAt r k).2) := by
  have hl := h.plen
  obtain ⟨b, off, e, h1, h2, hc⟩ := h.2 (by omega)
  have hkl : k < r.length := by omega
  have key : ∀ j, j < 2 → (ptsV r)[k * 2 + j]? = (ptC (ptAt r k))[j]? := fun j hj => by rw [ptAt_eq hkl]; exact recV_at ptC_len r k j hkl hj
  exact ⟨b, off, e, h1, h2, hc _ _ (key 0 (by omega)), hc _ _ (key 1 (by omega))⟩
theorem ringH_found {r : List Pt2} {key : Int} {k : Nat} (hk : k < r.length) (hj : ∀ j, j < k → (ptAt r j).1 < key) (h : key ≤ (ptAt r k).1) : ringH r key = (ptAt r k).2 := by
  have hf : r.find? (fun x => decide (key ≤ x.1)) = some (ptAt r k) := by
    rw [List.find?_eq_some_iff_getElem]
    refine ⟨by simpa using h, k, hk, (ptAt_eq hk).symm, fun j hjk => ?_⟩
    have := hj j hjk
    rw [ptAt_eq (by omega)] at this
    simp; omega
  unfold ringH
  rw [hf]
theorem ringH_none {r : List Pt2} {key : Int} (hn : 0 < r.length) (hj : ∀ j, j < r.length → (ptAt r j).1 < key) : ringH r key = (ptAt r 0).2 := by
  have hf : r.find? (fun x => decide (key ≤ x.1)) = none := by
    rw [List.find?_eq_none]
    intro x hx
    obtain ⟨j, hjl, rfl⟩ := List.mem_iff_getElem.1 hx
    have := hj j hjl
    rw [ptAt_eq hjl] at this
    simp; omega
  unfold ringH
  rw [hf]
  cases r with
  | nil => simp at hn
  | cons x s => rfl
def slotH (zs : List Int) (key : Int) : Int := if zs.length = 0 then -1 else zs[(key % (zs.length : Int)).toNat]?.getD 0
/-- The bucket among m buckets. -/
def jumpB (key : Int) : Nat → Int
  | 0 => 0
  | 1 => 0
  | k + 2 => if mixL [key, ((k + 2 : Nat) : Int)] % ((k + 2 : Nat) : Int) = 0 then ((k + 1 : Nat) : Int) else jumpB key (k + 1)
theorem jumpB_step (key : Int) (k : Nat) (h : 1 ≤ k) : jumpB key (k + 1) = if mixL [key, (k : Int) + 1] % ((k : Int) + 1) = 0 then (k : Int) else jumpB key k := by
  obtain ⟨j, rfl⟩ : ∃ j, k = j + 1 := ⟨k - 1, by omega⟩
  show (if mixL [key, ((j + 2 : Nat) : Int)] % ((j + 2 : Nat) : Int) = 0 then ((j + 1 : Nat) : Int) else jumpB key (j + 1)) = _
  have e : ((j + 2 : Nat) : Int) = ((j + 1 : Nat) : Int) + 1 := by omega
  rw [e]
theorem jumpB_bd (key : Int) : ∀ m : Nat, 1 ≤ m → 0 ≤ jumpB key m ∧ jumpB key m < m := by
  intro m hm
  induction m with
  | zero => omega
  | succ k ih =>
    rcases Nat.eq_zero_or_pos k with h | h
    · subst h; exact ⟨Int.le_refl _, by show (0 : Int) < 1; omega⟩
    · have := ih h
      rw [jumpB_step key k h]
      split <;> omega
def jumpH (hs : List H3) (key : Int) : Int := if (upNV hs).length = 0 then -1 else (upNV hs)[(jumpB key (upNV hs).length).toNat]?.getD 0
theorem mix2_pos (a b : Int) (ha : keyV a = true) (hb : keyV b = true) : 0 ≤ mixL [a, b] := by
  rw [mixL_yes (by simp) (fun j hj => ?_)]
  · exact (mixS_bd _).1
  · have : j = 0 ∨ j = 1 := by simp at hj; omega
    rcases this with rfl | rfl <;> simpa

set_option maxRecDepth 100000 in
set_option maxHeartbeats 800000 in
theorem iRingHost_any (A : Option Addr) (n c : Nat) (key : Int) (r : List Pt2) (w : World) {lo hi : Nat} (hS : Sl w lo hi 2 A n (ptsV r)) (hhi : hi ≤ w.heap.size) (hn : n ≤ 1048576) :
    Calls Try.prog 47 #[.slice A n c, .int .i64 key] w fun e w' => e = .returned (.int .i64 (ringH r key)) ∧ Below w.heap.size w w' := by
  have HL := Lib.hid hS.plen
  by_cases h0 : n = 0
  · subst h0
    have hr : r = [] := List.eq_nil_of_length_eq_zero HL.out
    subst hr
    go_enter Try.func47, Try.ntmps47
    go_wp2
    go_ret
    exact ⟨rfl, Below.refl _ _⟩
  · have hn0 : ((n : Int) == 0) = false := by simp; omega
    have hpos : 0 < n := by omega
    clear h0
    go_enter Try.func47, Try.ntmps47
    go_wp2
    go_loopw [12] (fun i wr => ∃ (k : Nat), k ≤ n ∧ i = .int .i64 k ∧ (∀ j, j < k → (ptAt r j).1 < key) ∧ Below w.heap.size w wr) (fun i _ => n - (intOf i).toNat)
    case atStart => exact ⟨0, Nat.zero_le _, rfl, fun j hj => absurd hj (by omega), Below.refl _ _⟩
    case round =>
      obtain ⟨k, hk, rfl, hj, hb⟩ := hrel
      have hz := hb.size
      by_cases hlt : k < n
      · obtain ⟨b, off, rfl, _, _, c0, c1⟩ := (hS.below hb hhi).pt hlt
        have hlk : k < r.length := by rw [HL.out]; exact hlt
        have HF := Lib.hid (@ringH_found r key k hlk hj)
        have HJ := Lib.hid hj
        clear hj
        obtain ⟨⟨h0, h1⟩, hh⟩ : ∃ p, ptAt r k = p := ⟨_, rfl⟩
        rw [hh] at c0 c1 HF
        have HH := Lib.hid hh
        clear hh
        by_cases hge : key ≤ h0
        · have HE := Lib.hid (HF.out hge)
          go_wp2
          go_ret
          exact ⟨ret_int HE.out.symm, hb.alloc hz _⟩
        · go_wp2
          go_roundw
          case rel => exact ⟨k + 1, by omega, by go_num, fun j hj => by
            rcases Nat.lt_or_ge j k with h | h
            · exact HJ.out j h
            · obtain rfl : j = k := by omega
              rw [HH.out]; show h0 < key; omega, hb.alloc hz _⟩
          case measure => simp [intOf]; omega
      · obtain rfl : n = k := by omega
        obtain ⟨b, off, rfl, _, _, c0, c1⟩ := (hS.below hb hhi).pt hpos
        have HE := Lib.hid (@ringH_none r key (by rw [HL.out]; exact hpos) (by rw [HL.out]; exact hj))
        clear hj
        simp only [Nat.zero_mul, Nat.add_zero] at c0 c1
        go_wp2
        go_ret
        exact ⟨ret_int HE.out.symm, hb⟩

set_option maxRecDepth 100000 in
set_option maxHeartbeats 800000 in
theorem sRingHost_any (A : Option Addr) (n c : Nat) (key : Int) (r : List Pt2) (w : World) {lo hi : Nat} (hS : Sl w lo hi 2 A n (ptsV r)) (hhi : hi ≤ w.heap.size) (hn : n ≤ 1048576) :
    Calls Try.prog 38 #[.slice A n c, .int .i64 key] w fun e w' => e = .returned (.int .i64 (ringH r key)) ∧ Below w.heap.size w w' := by
  have HL := Lib.hid hS.plen
  by_cases h0 : n = 0
  · subst h0
    have hr : r = [] := List.eq_nil_of_length_eq_zero HL.out
    subst hr
    go_enter Try.func38, Try.ntmps38
    go_wp2
    go_ret
    exact ⟨rfl, Below.refl _ _⟩
  · have hn0 : ((n : Int) == 0) = false := by simp; omega
    have hpos : 0 < n := by omega
    clear h0
    go_enter Try.func38, Try.ntmps38
    go_wp2
    go_loopw [5] (fun i wr => ∃ (k : Nat), k ≤ n ∧ i = .int .i64 k ∧ (∀ j, j < k → (ptAt r j).1 < key) ∧ Below w.heap.size w wr) (fun i _ => n - (intOf i).toNat)
    case atStart => exact ⟨0, Nat.zero_le _, rfl, fun j hj => absurd hj (by omega), Below.refl _ _⟩
    case round =>
      obtain ⟨k, hk, rfl, hj, hb⟩ := hrel
      have hz := hb.size
      by_cases hlt : k < n
      · obtain ⟨b, off, rfl, _, _, c0, c1⟩ := (hS.below hb hhi).pt hlt
        have hlk : k < r.length := by rw [HL.out]; exact hlt
        have HF := Lib.hid (@ringH_found r key k hlk hj)
        have HJ := Lib.hid hj
        clear hj
        obtain ⟨⟨h0, h1⟩, hh⟩ : ∃ p, ptAt r k = p := ⟨_, rfl⟩
        rw [hh] at c0 c1 HF
        have HH := Lib.hid hh
        clear hh
        by_cases hge : key ≤ h0
        · have HE := Lib.hid (HF.out hge)
          go_wp2
          go_ret
          exact ⟨ret_int HE.out.symm, hb⟩
        · go_wp2
          go_roundw
          case rel => exact ⟨k + 1, by omega, by go_num, fun j hj => by
            rcases Nat.lt_or_ge j k with h | h
            · exact HJ.out j h
            · obtain rfl : j = k := by omega
              rw [HH.out]; show h0 < key; omega, hb⟩
          case measure => simp [intOf]; omega
      · obtain rfl : n = k := by omega
        obtain ⟨b, off, rfl, _, _, c0, c1⟩ := (hS.below hb hhi).pt hpos
        have HE := Lib.hid (@ringH_none r key (by rw [HL.out]; exact hpos) (by rw [HL.out]; exact hj))
        clear hj
        simp only [Nat.zero_mul, Nat.add_zero] at c0 c1
        go_wp2
        go_ret
        exact ⟨ret_int HE.out.symm, hb⟩

set_option maxHeartbeats 800000 in
theorem iSlotHost_any (A : Option Addr) (n c : Nat) (key : Int) (zs : List Int) (w : World) {lo hi : Nat} (hS : Sl w lo hi 1 A n (zs.map (Value.int .i64))) (hn : n ≤ 1048576) (hk : 0 ≤ key) :
    Calls Try.prog 49 #[.slice A n c, .int .i64 key] w fun e w' => e = .returned (.int .i64 (slotH zs key)) ∧ w = w' := by
  have HL := Lib.hid hS.len
  by_cases h0 : n = 0
  · subst h0
    have hr : zs = [] := List.eq_nil_of_length_eq_zero HL.out
    subst hr
    go_enter Try.func49, Try.ntmps49
    go_wp2
    go_ret
    exact ⟨rfl, rfl⟩
  · have hn0 : ((n : Int) == 0) = false := by simp; omega
    have hpos : 0 < n := by omega
    clear h0
    obtain ⟨j, hj⟩ : ∃ j : Nat, key % (n : Int) = j := ⟨(key % (n : Int)).toNat, by have := Int.emod_nonneg key (b := (n : Int)) (by omega); omega⟩
    have hjn : j < n := by have := Int.emod_lt_of_pos key (b := (n : Int)) (by omega); omega
    obtain ⟨b, off, rfl, _, _, c0⟩ := hS.num hjn
    have HE : RowKit.Hid (slotH zs key = zs[j]?.getD 0) := Lib.hid (by
      unfold slotH
      rw [if_neg (by rw [HL.out]; omega), HL.out, hj, Int.toNat_natCast])
    obtain ⟨x, hx⟩ : ∃ x, zs[j]?.getD 0 = x := ⟨_, rfl⟩
    rw [hx] at c0 HE
    clear hx
    go_enter Try.func49, Try.ntmps49
    go_wp2
    go_ret
    exact ⟨ret_int HE.out.symm, rfl⟩

set_option maxHeartbeats 800000 in
theorem sSlotHost_any (A : Option Addr) (n c : Nat) (key : Int) (zs : List Int) (w : World) {lo hi : Nat} (hS : Sl w lo hi 1 A n (zs.map (Value.int .i64))) (hn : n ≤ 1048576) (hk : 0 ≤ key) :
    Calls Try.prog 40 #[.slice A n c, .int .i64 key] w fun e w' => e = .returned (.int .i64 (slotH zs key)) ∧ w = w' := by
  have HL := Lib.hid hS.len
  by_cases h0 : n = 0
  · subst h0
    have hr : zs = [] := List.eq_nil_of_length_eq_zero HL.out
    subst hr
    go_enter Try.func40, Try.ntmps40
    go_wp2
    go_ret
    exact ⟨rfl, rfl⟩
  · have hn0 : ((n : Int) == 0) = false := by simp; omega
    have hpos : 0 < n := by omega
    clear h0
    obtain ⟨j, hj⟩ : ∃ j : Nat, key % (n : Int) = j := ⟨(key % (n : Int)).toNat, by have := Int.emod_nonneg key (b := (n : Int)) (by omega); omega⟩
    have hjn : j < n := by have := Int.emod_lt_of_pos key (b := (n : Int)) (by omega); omega
    obtain ⟨b, off, rfl, _, _, c0⟩ := hS.num hjn
    have HE : RowKit.Hid (slotH zs key = zs[j]?.getD 0) := Lib.hid (by
      unfold slotH
      rw [if_neg (by rw [HL.out]; omega), HL.out, hj, Int.toNat_natCast])
    obtain ⟨x, hx⟩ : ∃ x, zs[j]?.getD 0 = x := ⟨_, rfl⟩
    rw [hx] at c0 HE
    clear hx
    go_enter Try.func40, Try.ntmps40
    go_wp2
    go_ret
    exact ⟨ret_int HE.out.symm, rfl⟩

set_option maxHeartbeats 800000 in
theorem iJumpB_any (key : Int) (m : Nat) (w : World) (hk : keyV key = true) (hm1 : 1 ≤ m) (hm : m ≤ 50) :
    Calls Try.prog 76 #[.int .i64 key, .int .i64 (m : Int)] w fun e w' => e = .returned (.int .i64 (jumpB key m)) ∧ Below w.heap.size w w' := by
  have hbk := keyV_iff.1 hk
  skip
  have hin : inB (m : Int) 1 50 = true := inB_true (by omega)
  go_enter Try.func76, Try.ntmps76
  go_wp2_with (first | (go_at_call 44; refine (isKey_any _ _).mono ?_; rw [hk]; rintro e w1 ⟨rfl, rfl⟩) | (go_at_call 59; refine (in_any _ _ _ _).mono ?_; rw [hin]; rintro e w1 ⟨rfl, rfl⟩))
  go_loopw [5, 6] (fun x i wr => ∃ (k : Nat), 1 ≤ k ∧ k ≤ m ∧ i = .int .i64 ((k : Int) + 1) ∧ x = .int .i64 (jumpB key k) ∧ Below w.heap.size w wr) (fun _ i _ => m + 1 - (intOf i).toNat)
  case atStart => exact ⟨1, by omega, by omega, rfl, rfl, Below.refl _ _⟩
  case round =>
    obtain ⟨k, hk1, hk2, rfl, rfl, hb⟩ := hrel
    have hz := hb.size
    by_cases hlt : k < m
    · have HE := Lib.hid (jumpB_step key k hk1)
      obtain ⟨x, hx⟩ : ∃ x, mixL [key, (k : Int) + 1] = x := ⟨_, rfl⟩
      have hx0 : 0 ≤ x := by rw [← hx]; exact mix2_pos _ _ hk (keyV_iff.2 (by omega))
      have hx1 : x ≤ 1000002 := by rw [← hx]; exact (mixL_bd _).2
      rw [hx] at HE
      have HX := Lib.hid hx
      clear hx
      by_cases hmod : x % ((k : Int) + 1) = 0
      · have HE2 : RowKit.Hid (jumpB key (k + 1) = (k : Int)) := Lib.hid (by rw [HE.out, if_pos hmod])
        have hd : (x % ((k : Int) + 1) == 0) = true := by simpa using hmod
        go_wp2_with (go_at_call 70; refine (mix_any _ 2 2 [key, (k : Int) + 1] _ (sl_new2 _ _ _ rfl) (by omega)).mono ?_; rw [HX.out]; rintro e w1 ⟨rfl, rfl⟩)
        go_roundw
        case rel => exact ⟨k + 1, by omega, by omega, by go_num, by rw [HE2.out], hb.alloc hz _⟩
        case measure => simp [intOf]; omega
      · have HE2 : RowKit.Hid (jumpB key (k + 1) = jumpB key k) := Lib.hid (by rw [HE.out, if_neg hmod])
        have hd : (x % ((k : Int) + 1) == 0) = false := by simpa using hmod
        go_wp2_with (go_at_call 70; refine (mix_any _ 2 2 [key, (k : Int) + 1] _ (sl_new2 _ _ _ rfl) (by omega)).mono ?_; rw [HX.out]; rintro e w1 ⟨rfl, rfl⟩)
        go_roundw
        case rel => exact ⟨k + 1, by omega, by omega, by go_num, by rw [HE2.out], hb.alloc hz _⟩
        case measure => simp [intOf]; omega
    · obtain rfl : m = k := by omega
      go_wp2
      go_ret
      exact ⟨rfl, hb⟩

set_option maxHeartbeats 800000 in
theorem sJumpB_any (key : Int) (m : Nat) (w : World) (hk : keyV key = true) (hm1 : 1 ≤ m) (hm : m ≤ 50) :
    Calls Try.prog 69 #[.int .i64 key, .int .i64 (m : Int)] w fun e w' => e = .returned (.int .i64 (jumpB key m)) ∧ Below w.heap.size w w' := by
  have hbk := keyV_iff.1 hk
  have hkin : inB key 0 1000002 = true := by rw [keyV_in]; exact hk
  have hin : inB (m : Int) 1 50 = true := inB_true (by omega)
  go_enter Try.func69, Try.ntmps69
  go_wp2_with (first | (go_at_call 36; refine (l1In_any _ _ _ _).mono ?_; (first | rw [hkin] | rw [hin]); rintro e w1 ⟨rfl, rfl⟩) | (fail))
  go_loopw [5, 6] (fun x i wr => ∃ (k : Nat), 1 ≤ k ∧ k ≤ m ∧ i = .int .i64 ((k : Int) + 1) ∧ x = .int .i64 (jumpB key k) ∧ Below w.heap.size w wr) (fun _ i _ => m + 1 - (intOf i).toNat)
  case atStart => exact ⟨1, by omega, by omega, rfl, rfl, Below.refl _ _⟩
  case round =>
    obtain ⟨k, hk1, hk2, rfl, rfl, hb⟩ := hrel
    have hz := hb.size
    by_cases hlt : k < m
    · have HE := Lib.hid (jumpB_step key k hk1)
      obtain ⟨x, hx⟩ : ∃ x, mixL [key, (k : Int) + 1] = x := ⟨_, rfl⟩
      have hx0 : 0 ≤ x := by rw [← hx]; exact mix2_pos _ _ hk (keyV_iff.2 (by omega))
      have hx1 : x ≤ 1000002 := by rw [← hx]; exact (mixL_bd _).2
      rw [hx] at HE
      have HX := Lib.hid hx
      clear hx
      by_cases hmod : x % ((k : Int) + 1) = 0
      · have HE2 : RowKit.Hid (jumpB key (k + 1) = (k : Int)) := Lib.hid (by rw [HE.out, if_pos hmod])
        have hd : (x % ((k : Int) + 1) == 0) = true := by simpa using hmod
        go_wp2_with (go_at_call 65; refine (sMix_any _ 2 2 [key, (k : Int) + 1] _ (sl_new2 _ _ _ rfl) (by omega)).mono ?_; rw [HX.out]; rintro e w1 ⟨rfl, rfl⟩)
        go_roundw
        case rel => exact ⟨k + 1, by omega, by omega, by go_num, by rw [HE2.out], hb.alloc hz _⟩
        case measure => simp [intOf]; omega
      · have HE2 : RowKit.Hid (jumpB key (k + 1) = jumpB key k) := Lib.hid (by rw [HE.out, if_neg hmod])
        have hd : (x % ((k : Int) + 1) == 0) = false := by simpa using hmod
        go_wp2_with (go_at_call 65; refine (sMix_any _ 2 2 [key, (k : Int) + 1] _ (sl_new2 _ _ _ rfl) (by omega)).mono ?_; rw [HX.out]; rintro e w1 ⟨rfl, rfl⟩)
        go_roundw
        case rel => exact ⟨k + 1, by omega, by omega, by go_num, by rw [HE2.out], hb.alloc hz _⟩
        case measure => simp [intOf]; omega
    · obtain rfl : m = k := by omega
      go_wp2
      go_ret
      exact ⟨rfl, hb⟩

set_option maxHeartbeats 800000 in
theorem iJumpH_any (A : Option Addr) (n c : Nat) (key : Int) (hs : List H3) (w : World) {lo hi : Nat} (hS : Sl w lo hi 3 A n (hostsV hs)) (hhi : hi ≤ w.heap.size) (hn : n ≤ 1048576) (hk : keyV key = true) (hv : poolV hs = true) :
    Calls Try.prog 51 #[.slice A n c, .int .i64 key] w fun e w' => e = .returned (.int .i64 (jumpH hs key)) ∧ Below w.heap.size w w' := by
  have hbk := keyV_iff.1 hk
  skip
  obtain ⟨us, hus⟩ : ∃ us, upNV hs = us := ⟨_, rfl⟩
  obtain ⟨m, hml⟩ : ∃ m, us.length = m := ⟨_, rfl⟩
  have hm6 : m ≤ 6 := by
    rw [← hml, ← hus]
    unfold upNV upN
    rw [if_pos hv, List.length_map]
    exact Nat.le_trans (upL_len hs) (pool_len hv)
  have HJ : RowKit.Hid (jumpH hs key = if us.length = 0 then -1 else us[(jumpB key us.length).toNat]?.getD 0) := Lib.hid (by unfold jumpH; rw [hus])
  have HM := Lib.hid hml
  have hup : Calls Try.prog 34 #[.slice A n c] w (RetOwn w 3 1 m (us.map (Value.int .i64))) := by
    have := iHostsUp_any A n c hs w hS hhi hn
    rwa [hus, hml] at this
  rw [HJ.out, HM.out]
  clear hus hml
  by_cases h0 : m = 0
  · subst h0
    go_enter Try.func51, Try.ntmps51
    go_wp2_with (first | (go_at_call 34; refine hup.mono ?_; intro e w2 hr; obtain ⟨A2, c2, rfl, own2, hb2⟩ := hr.form; clear hr))
    go_ret
    exact ⟨rfl, hb2⟩
  · have hm0 : ((m : Int) == 0) = false := by simp; omega
    rw [if_neg h0]
    obtain ⟨j, hj⟩ : ∃ j : Nat, jumpB key m = j := ⟨(jumpB key m).toNat, by have := jumpB_bd key m (by omega); omega⟩
    have hjm : j < m := by have := jumpB_bd key m (by omega); omega
    have HB := Lib.hid hj
    rw [hj, Int.toNat_natCast]
    clear hj h0
    go_enter Try.func51, Try.ntmps51
    go_wp2_with (first | (go_at_call 44; refine (isKey_any _ _).mono ?_; rw [hk]; rintro e w1 ⟨rfl, rfl⟩) | (go_at_call 34; refine hup.mono ?_; intro e w2 hr; obtain ⟨A2, c2, rfl, own2, hb2⟩ := hr.form; have hS2 := Sl.of_own own2; obtain ⟨b, off, rfl, _, _, c0⟩ := hS2.num hjm; clear own2 hr) | (go_at_call 76; refine (iJumpB_any _ _ _ hk (by omega) (by omega)).mono ?_; rw [HB.out]; rintro e w3 ⟨rfl, hb3⟩; have d0 := (hb3.cell (p := ⟨b, off + j, none⟩) (by assumption)).trans c0))
    go_ret
    exact ⟨rfl, hb2.trans (hb3.mono hb2.size)⟩

set_option maxHeartbeats 800000 in
theorem sJumpH_any (A : Option Addr) (n c : Nat) (key : Int) (hs : List H3) (w : World) {lo hi : Nat} (hS : Sl w lo hi 3 A n (hostsV hs)) (hhi : hi ≤ w.heap.size) (hn : n ≤ 1048576) (hk : keyV key = true) (hv : poolV hs = true) :
    Calls Try.prog 42 #[.slice A n c, .int .i64 key] w fun e w' => e = .returned (.int .i64 (jumpH hs key)) ∧ Below w.heap.size w w' := by
  have hbk := keyV_iff.1 hk
  have hkin : inB key 0 1000002 = true := by rw [keyV_in]; exact hk
  obtain ⟨us, hus⟩ : ∃ us, upNV hs = us := ⟨_, rfl⟩
  obtain ⟨m, hml⟩ : ∃ m, us.length = m := ⟨_, rfl⟩
  have hm6 : m ≤ 6 := by
    rw [← hml, ← hus]
    unfold upNV upN
    rw [if_pos hv, List.length_map]
    exact Nat.le_trans (upL_len hs) (pool_len hv)
  have HJ : RowKit.Hid (jumpH hs key = if us.length = 0 then -1 else us[(jumpB key us.length).toNat]?.getD 0) := Lib.hid (by unfold jumpH; rw [hus])
  have HM := Lib.hid hml
  have hup : Calls Try.prog 68 #[.slice A n c] w (RetOwn w 3 1 m (us.map (Value.int .i64))) := by
    have := sHostsUp_any A n c hs w hS hhi hn
    rwa [hus, hml] at this
  rw [HJ.out, HM.out]
  clear hus hml
  by_cases h0 : m = 0
  · subst h0
    go_enter Try.func42, Try.ntmps42
    go_wp2_with (first | (go_at_call 68; refine hup.mono ?_; intro e w2 hr; obtain ⟨A2, c2, rfl, own2, hb2⟩ := hr.form; clear hr))
    go_ret
    exact ⟨rfl, hb2⟩
  · have hm0 : ((m : Int) == 0) = false := by simp; omega
    rw [if_neg h0]
    obtain ⟨j, hj⟩ : ∃ j : Nat, jumpB key m = j := ⟨(jumpB key m).toNat, by have := jumpB_bd key m (by omega); omega⟩
    have hjm : j < m := by have := jumpB_bd key m (by omega); omega
    have HB := Lib.hid hj
    rw [hj, Int.toNat_natCast]
    clear hj h0
    go_enter Try.func42, Try.ntmps42
    go_wp2_with (first | (go_at_call 36; refine (l1In_any _ _ _ _).mono ?_; (first | rw [hkin] | rw [hin]); rintro e w1 ⟨rfl, rfl⟩) | (go_at_call 68; refine hup.mono ?_; intro e w2 hr; obtain ⟨A2, c2, rfl, own2, hb2⟩ := hr.form; have hS2 := Sl.of_own own2; obtain ⟨b, off, rfl, _, _, c0⟩ := hS2.num hjm; clear own2 hr) | (go_at_call 69; refine (sJumpB_any _ _ _ hk (by omega) (by omega)).mono ?_; rw [HB.out]; rintro e w3 ⟨rfl, hb3⟩; have d0 := (hb3.cell (p := ⟨b, off + j, none⟩) (by assumption)).trans c0))
    go_ret
    exact ⟨rfl, hb2.trans (hb3.mono hb2.size)⟩
end Go.Proofs.Ytfobcggcilbgbaa
