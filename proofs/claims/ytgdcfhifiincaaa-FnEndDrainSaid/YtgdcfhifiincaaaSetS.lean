/-
  SetState of the reference, where the pool is valid and the host is there.
-/
import Derived.Test.YtgdcfhifiincaaaEndL
import Derived.Test.YtgdcfhifiincaaaApp1
import Derived.Test.YtgdcfhifiincaaaDraw0
import Derived.Deep.CutBlock
namespace Go.Proofs.Ytgdcfhifiincaaa
open Go.RowKit
set_option linter.unusedVariables false

theorem setSt_snoc {hs : List H3} {k : Nat} (hk : k < hs.length) (x s : Int) : setSt (hs.take (k + 1)) x s = setSt (hs.take k) x s ++ [if (hAt hs k).1 = x then ((hAt hs k).1, (hAt hs k).2.1, s) else hAt hs k] := by
  rw [List.take_succ_eq_append_getElem hk, ← hAt_eq hk]
  unfold setSt
  rw [List.map_append]
  rfl
/-- A call hands back a row of its own and true. -/
def RetOwnT (w : World) (T : TypeId) (size n : Nat) (xs : List Value) (e : Ending) (w' : World) : Prop := ∃ A c, e = .returned (.tuple #[.slice A n c, .bool true]) ∧ w'.ownsRow w.heap.size T size (.slice A n c) n xs ∧ Below w.heap.size w w'

set_option maxRecDepth 100000 in
set_option maxHeartbeats 1600000 in
theorem sSetState_yes (A : Option Addr) (n c : Nat) (hs : List H3) (x st : Int) (w : World) {lo hi : Nat} (hS : Sl w lo hi 3 A n (hostsV hs)) (hhi : hi ≤ w.heap.size) (hn : n ≤ 1048576) (hv : poolV hs = true) {k0 : Nat} (hk0 : k0 < n) (hx0 : (hAt hs k0).1 = x) (hst : inB st 0 2 = true) :
    Calls Try.prog 49 #[.slice A n c, .int .i64 x, .int .i64 st] w (RetOwnT w 50 3 n (hostsV (setSt hs x st))) := by
  have HL := Lib.hid hS.hlen
  have HX0 := Lib.hid hx0
  clear hx0
  obtain ⟨i0, hi0, hz0, hz1, hz2⟩ := info_parts infoHost
  have hlit := World.ownsRow_lit (base := w.heap.size) (e := 50) (size := 3) w #[] 0 (Nat.le_refl _) (by unfold maxLen; omega) (by simp)
  have hb0 := (Below.refl w.heap.size w).alloc (Nat.le_refl _) (.cells #[] 50)
  go_enter Try.func49, Try.ntmps49
  go_wp2
  go_loopw [8, 9, 10] (fun o f i wr => ∃ (k : Nat) (fb : Bool), k ≤ n ∧ i = .int .i64 k ∧ f = .bool fb ∧ (k0 < k → fb = true) ∧ wr.ownsRow w.heap.size 50 3 o k (hostsV (setSt (hs.take k) x st)) ∧ Below w.heap.size w wr) (fun _ _ i _ => n - (intOf i).toNat)
  case atStart => exact ⟨0, false, Nat.zero_le _, rfl, rfl, fun h => absurd h (by omega), by simpa [hostsV, setSt] using hlit, hb0⟩
  case round =>
    clear hlit hb0
    obtain ⟨k, fb, hk, rfl, rfl, hfb, hown, hb⟩ := hrel
    have HFB := Lib.hid hfb
    clear hfb
    have hz := hb.size
    by_cases hlt : k < n
    · have hki2 : (k : Int) < (n : Int) := by omega
      have hlk : k < hs.length := by rw [HL.out]; exact hlt
      have HSN := Lib.hid (setSt_snoc hlk x st)
      go_wp2_with fail
      refine (sPoolValid_any _ _ _ hs _ (hS.below hb hhi) (by omega) hn).mono ?_
      rw [hv]
      rintro e w1 ⟨rfl, hb1⟩
      have hd := hb.trans (hb1.mono hz)
      have hown1 := own_below hown hb1
      have hz1' := hd.size
      obtain ⟨b, off, rfl, _, _, c0, c1, c2⟩ := (hS.below hd hhi).host hlt
      obtain ⟨⟨h0, h1, h2⟩, hh⟩ : ∃ p, hAt hs k = p := ⟨_, rfl⟩
      rw [hh] at c0 c1 c2 HSN
      have HH := Lib.hid hh
      clear hh
      have hki : (0 : Int) ≤ (k : Int) := by omega
      by_cases hx : h0 = x
      · subst hx
        have HE : RowKit.Hid (setSt (hs.take (k + 1)) h0 st = setSt (hs.take k) h0 st ++ [(h0, h1, st)]) := Lib.hid (by rw [HSN.out, if_pos rfl])
        go_upto_region 10 with fail
        go_wp2_with (at_builtin; (refine wpList_app1 (w1.alloc _) w #[.int .i64 h0, .int .i64 h1, .int .i64 st] rfl _ _ 30 50 rfl i0 _ 3 24 Try.underlying30 hi0 hz0 hz1 hz2 rfl (by decide) _ _ _ (by rfl) (hown1.alloc _) (hd.alloc hz1' _) (w1.heap.size + 1) 1 1 (by simp) rfl rfl (by intro u hu; simp at hu; rcases hu with rfl | rfl | rfl <;> rfl) (by unfold maxLen; omega) (by omega) ?_; intro v' w2 hown2 hb2))
        go_roundw
        case rel => exact ⟨k + 1, true, by omega, by go_num, rfl, fun _ => rfl, by rw [HE.out, hostsV_append]; exact hown2, hb2⟩
        case measure => simp [intOf]; omega
      · have hxb : (h0 == x) = false := by simpa using hx
        have HNX : RowKit.Hid (h0 ≠ x) := Lib.hid hx
        have HE : RowKit.Hid (setSt (hs.take (k + 1)) x st = setSt (hs.take k) x st ++ [(h0, h1, h2)]) := Lib.hid (by rw [HSN.out, if_neg hx])
        clear hx
        go_upto_region 10 with fail
        go_wp2_with (at_builtin; (refine wpList_app1 (w1.alloc _) w #[.int .i64 h0, .int .i64 h1, .int .i64 h2] rfl _ _ 30 50 rfl i0 _ 3 24 Try.underlying30 hi0 hz0 hz1 hz2 rfl (by decide) _ _ _ (by rfl) (hown1.alloc _) (hd.alloc hz1' _) (w1.heap.size + 1) 1 1 (by simp) rfl rfl (by intro u hu; simp at hu; rcases hu with rfl | rfl | rfl <;> rfl) (by unfold maxLen; omega) (by omega) ?_; intro v' w2 hown2 hb2))
        go_roundw
        case rel => exact ⟨k + 1, fb, by omega, by go_num, rfl, fun h => by
          rcases Nat.lt_or_ge k0 k with h' | h'
          · exact HFB.out h'
          · obtain rfl : k0 = k := by omega
            exact absurd (by have := HX0.out; rw [HH.out] at this; exact this) HNX.out, by rw [HE.out, hostsV_append]; exact hown2, hb2⟩
        case measure => simp [intOf]; omega
    · obtain rfl : n = k := by omega
      obtain rfl : fb = true := HFB.out hk0
      have HE : RowKit.Hid (hs.take n = hs) := Lib.hid (by rw [← HL.out, List.take_length])
      rw [HE.out] at hown
      go_wp2_with fail
      refine (l1In_any _ _ _ _).mono ?_
      rw [hst]
      rintro e w' ⟨rfl, rfl⟩
      obtain ⟨A1, a1, rfl, e1, e2⟩ := own_is_slice hown
      go_wp2
      refine bodyPost_ret (v := .tuple #[.slice A1 n a1, .bool true]) ?_ rfl ⟨A1, a1, rfl, hown, hb⟩
      simp [results, Try.results49, go_sem]
end Go.Proofs.Ytgdcfhifiincaaa
