/-
  RendezvousHost of the reference.
-/
import Derived.Test.YtfobcggcilbgbaaRdv
namespace Go.Proofs.Ytfobcggcilbgbaa
open Go.RowKit
set_option linter.unusedVariables false

def srdS (hs : List H3) (key : Int) (k : Nat) : Int × Int := bestT (ticks (hs.take k) key)
def srdT (hs : List H3) (key : Int) (k t : Nat) : Int × Int := ((tickH key (hAt hs k)).take t).foldl best1 (srdS hs key k)
theorem srdS_zero (hs : List H3) (key : Int) : srdS hs key 0 = (-1, -1) := rfl
theorem srdT_zero (hs : List H3) (key : Int) (k : Nat) : srdT hs key k 0 = srdS hs key k := by simp [srdT]
theorem srdS_up {hs : List H3} (key : Int) {k : Nat} (hk : k < hs.length) (h : (hAt hs k).2.2 = 1) : srdS hs key (k + 1) = srdT hs key k (hAt hs k).2.1.toNat := by
  unfold srdS srdT ticks
  rw [upL_snoc_yes hk h, List.take_of_length_le (l := tickH key (hAt hs k)) (by rw [tickH_len]; exact Nat.le_refl _)]
  unfold srdS bestT ticks
  simp [List.foldl_append]
theorem srdS_no {hs : List H3} (key : Int) {k : Nat} (hk : k < hs.length) (h : ¬ (hAt hs k).2.2 = 1) : srdS hs key (k + 1) = srdS hs key k := by
  unfold srdS ticks
  rw [upL_snoc_no hk h]
theorem srdT_step (hs : List H3) (key : Int) (k t : Nat) (ht : t < (hAt hs k).2.1.toNat) : srdT hs key k (t + 1) = best1 (srdT hs key k t) ((hAt hs k).1, mixL [key, (hAt hs k).1, (t : Int)]) := by
  unfold srdT
  rw [List.take_add_one, tickH_at key _ t ht]
  simp [List.foldl_append]
theorem srdS_done {hs : List H3} {key : Int} (hv : poolV hs = true) (hk : keyV key = true) : (srdS hs key hs.length).1 = rdv hs key := by
  unfold srdS rdv
  rw [if_pos ⟨hv, hk⟩, List.take_length]

set_option maxRecDepth 100000 in
set_option maxHeartbeats 1600000 in
theorem sRdv_any (A : Option Addr) (n c : Nat) (key : Int) (hs : List H3) (w : World) {lo hi : Nat} (hS : Sl w lo hi 3 A n (hostsV hs)) (hhi : hi ≤ w.heap.size) (hn : n ≤ 1048576) :
    Calls Try.prog 37 #[.slice A n c, .int .i64 key] w fun e w' => e = .returned (.int .i64 (rdv hs key)) ∧ Below w.heap.size w w' := by
  have HL := Lib.hid hS.hlen
  by_cases hv : poolV hs = true
  · by_cases hk : keyV key = true
    · have hbk := keyV_iff.1 hk
      have hkin : inB key 0 1000002 = true := by rw [keyV_in]; exact hk
      have HR := Lib.hid (srdS_done hv hk)
      have HW := Lib.hid (pool_mem hv)
      have hn6 : n ≤ 6 := by have := pool_len hv; rw [HL.out] at this; exact this
      rw [← HR.out, HL.out]
      go_enter Try.func37, Try.ntmps37
      go_wp2
      go_loopw [5, 6, 7] (fun x y i wr => ∃ (k : Nat), k ≤ n ∧ i = .int .i64 k ∧ y = .int .i64 (srdS hs key k).1 ∧ x = .int .i64 (srdS hs key k).2 ∧ Below w.heap.size w wr) (fun _ _ i _ => n - (intOf i).toNat)
      case atStart => exact ⟨0, Nat.zero_le _, rfl, rfl, rfl, Below.refl _ _⟩
      case round =>
        obtain ⟨k, hk', rfl, rfl, rfl, hb⟩ := hrel
        by_cases hlt : k < n
        · have hlk : k < hs.length := by rw [HL.out]; exact hlt
          have hz := hb.size
          have hSr := hS.below hb hhi
          have hhi' := Nat.le_trans hhi hz
          have HU := Lib.hid (@srdS_up hs key k hlk)
          have HN := Lib.hid (@srdS_no hs key k hlk)
          have HST := Lib.hid (srdT_step hs key k)
          have HZ := Lib.hid (srdT_zero hs key k)
          have hbw := HW.out _ (hAt_mem hlk)
          obtain ⟨⟨h0, h1, h2⟩, hh⟩ : ∃ p, hAt hs k = p := ⟨_, rfl⟩
          rw [hh] at HU HN HST hbw
          simp only at hbw
          have HH := Lib.hid hh
          clear hh
          obtain ⟨q, rfl⟩ : ∃ q : Nat, h1 = (q : Int) := ⟨h1.toNat, by omega⟩
          have hq5 : q ≤ 5 := by omega
          have hq1 : 1 ≤ q := by omega
          simp only [Int.toNat_natCast] at HU HST
          by_cases hu : h2 = 1
          · subst hu
            have HU1 := Lib.hid (HU.out rfl)
            go_upto_region 7 with (first | (go_at_call 35; refine (sPoolValid_any _ _ _ hs _ hSr hhi' hn).mono ?_; rw [hv]; rintro e w1 ⟨rfl, hb1⟩) | (go_at_call 36; refine (l1In_any _ _ _ _).mono ?_; rw [hkin]; rintro e w2 ⟨rfl, rfl⟩))
            obtain ⟨b, off, rfl, hb0, hbh, c0, c1, c2⟩ := (hSr.below hb1 hhi').host hlt
            rw [HH.out] at c0 c1 c2
            have hbb := hb.trans (hb1.mono hz)
            have hbz : b < w.heap.size := by omega
            clear hb hb1 hSr hhi' hz
            obtain ⟨wo, rfl⟩ : ∃ wo : World, wo = wr := ⟨_, rfl⟩
            go_loopw [5, 6, 8] (fun x y i wr => ∃ (s : Nat), s ≤ q ∧ i = .int .i64 s ∧ y = .int .i64 (srdT hs key k s).1 ∧ x = .int .i64 (srdT hs key k s).2 ∧ Below w1.heap.size w1 wr) (fun _ _ i _ => q - (intOf i).toNat)
            case atStart => exact ⟨0, Nat.zero_le _, rfl, by rw [HZ.out], by rw [HZ.out], Below.refl _ _⟩
            case round =>
              obtain ⟨s, hs', rfl, rfl, rfl, hbi⟩ := hrel
              have hzi := hbi.size
              have hz1 := hbb.size
              have d0 : wr.cell? ⟨b, off + k * 3, none⟩ = some (.int .i64 h0) := (hbi.cell (p := ⟨b, off + k * 3, none⟩) (by show b < _; omega)).trans c0
              have d1 : wr.cell? ⟨b, off + k * 3 + 1, none⟩ = some (.int .i64 (q : Int)) := (hbi.cell (p := ⟨b, off + k * 3 + 1, none⟩) (by show b < _; omega)).trans c1
              have d2 : wr.cell? ⟨b, off + k * 3 + 2, none⟩ = some (.int .i64 1) := (hbi.cell (p := ⟨b, off + k * 3 + 2, none⟩) (by show b < _; omega)).trans c2
              have hgl : b < wr.heap.size := by omega
              by_cases hlt2 : s < q
              · have HE := Lib.hid (HST.out s hlt2)
                obtain ⟨x, hx⟩ : ∃ x, mixL [key, h0, (s : Int)] = x := ⟨_, rfl⟩
                rw [hx] at HE
                have HX := Lib.hid hx
                clear hx
                obtain ⟨⟨r1, r2⟩, hr⟩ : ∃ p, srdT hs key k s = p := ⟨_, rfl⟩
                rw [hr] at HE ⊢
                clear hr
                by_cases hgt : r2 < x
                · have HE2 : RowKit.Hid (srdT hs key k (s + 1) = (h0, x)) := Lib.hid (by rw [HE.out]; unfold best1; rw [if_pos hgt])
                  go_wp2_with (go_at_call 65; refine (sMix_any _ 3 3 [key, h0, (s : Int)] _ (sl_new3 _ _ _ _ rfl) (by omega)).mono ?_; rw [HX.out]; rintro e w3 ⟨rfl, rfl⟩)
                  go_roundw
                  case rel => exact ⟨s + 1, by omega, by go_num, by rw [HE2.out], by rw [HE2.out], hbi.alloc hzi _⟩
                  case measure => simp [intOf]; omega
                · have HE2 : RowKit.Hid (srdT hs key k (s + 1) = (r1, r2)) := Lib.hid (by rw [HE.out]; unfold best1; rw [if_neg hgt])
                  go_wp2_with (go_at_call 65; refine (sMix_any _ 3 3 [key, h0, (s : Int)] _ (sl_new3 _ _ _ _ rfl) (by omega)).mono ?_; rw [HX.out]; rintro e w3 ⟨rfl, rfl⟩)
                  go_roundw
                  case rel => exact ⟨s + 1, by omega, by go_num, by rw [HE2.out], by rw [HE2.out], hbi.alloc hzi _⟩
                  case measure => simp [intOf]; omega
              · obtain rfl : q = s := by omega
                go_wp2
                go_roundw
                case rel => exact ⟨k + 1, by omega, by go_num, by rw [HU1.out], by rw [HU1.out], hbb.trans (hbi.mono hz1)⟩
                case measure => simp [intOf]; omega
          · have HN1 := Lib.hid (HN.out hu)
            have hu' : (h2 == 1) = false := by simpa using hu
            go_upto_region 7 with (first | (go_at_call 35; refine (sPoolValid_any _ _ _ hs _ hSr hhi' hn).mono ?_; rw [hv]; rintro e w1 ⟨rfl, hb1⟩) | (go_at_call 36; refine (l1In_any _ _ _ _).mono ?_; rw [hkin]; rintro e w2 ⟨rfl, rfl⟩))
            obtain ⟨b, off, rfl, hb0, hbh, c0, c1, c2⟩ := (hSr.below hb1 hhi').host hlt
            rw [HH.out] at c0 c1 c2
            have hbb := hb.trans (hb1.mono hz)
            clear hb hb1 hSr hhi' hz
            obtain ⟨wo, rfl⟩ : ∃ wo : World, wo = wr := ⟨_, rfl⟩
            go_loopw [5, 6, 8] (fun x y i wr => i = .int .i64 0 ∧ y = .int .i64 (srdS hs key k).1 ∧ x = .int .i64 (srdS hs key k).2 ∧ wr = w1) (fun _ _ i _ => 0)
            case atStart => exact ⟨rfl, rfl, rfl, rfl⟩
            case round =>
              obtain ⟨rfl, rfl, rfl, rfl⟩ := hrel
              go_wp2
              go_roundw
              case rel => exact ⟨k + 1, by omega, by go_num, by rw [HN1.out], by rw [HN1.out], hbb⟩
              case measure => simp [intOf]; omega
        · obtain rfl : n = k := by omega
          go_wp2
          go_ret
          exact ⟨rfl, hb⟩
    · have hk' : inB key 0 1000002 = false := by rw [keyV_in]; exact Bool.eq_false_iff.2 hk
      have HR : RowKit.Hid (rdv hs key = -1) := Lib.hid (by unfold rdv; rw [if_neg (fun h => hk h.2)])
      rw [HR.out]
      clear hk
      go_enter Try.func37, Try.ntmps37
      go_wp2
      go_loopw [5, 6, 7] (fun x y i wr => i = .int .i64 0 ∧ y = .int .i64 (-1) ∧ x = .int .i64 (-1) ∧ Below w.heap.size w wr) (fun _ _ i _ => 0)
      case atStart => exact ⟨rfl, rfl, rfl, Below.refl _ _⟩
      case round =>
        obtain ⟨rfl, rfl, rfl, hb⟩ := hrel
        by_cases hlt : 0 < n
        · go_wp2_with (first | (go_at_call 35; refine (sPoolValid_any _ _ _ hs _ (hS.below hb hhi) (Nat.le_trans hhi hb.size) hn).mono ?_; rw [hv]; rintro e w1 ⟨rfl, hb1⟩) | (go_at_call 36; refine (l1In_any _ _ _ _).mono ?_; rw [hk']; rintro e w2 ⟨rfl, rfl⟩))
          go_ret
          exact ⟨rfl, hb.trans (hb1.mono hb.size)⟩
        · obtain rfl : n = 0 := by omega
          go_wp2
          go_ret
          exact ⟨rfl, hb⟩
  · have hv' := Bool.eq_false_iff.2 hv
    have HR : RowKit.Hid (rdv hs key = -1) := Lib.hid (by unfold rdv; rw [if_neg (fun h => hv h.1)])
    rw [HR.out]
    clear hv
    go_enter Try.func37, Try.ntmps37
    go_wp2
    go_loopw [5, 6, 7] (fun x y i wr => i = .int .i64 0 ∧ y = .int .i64 (-1) ∧ x = .int .i64 (-1) ∧ Below w.heap.size w wr) (fun _ _ i _ => 0)
    case atStart => exact ⟨rfl, rfl, rfl, Below.refl _ _⟩
    case round =>
      obtain ⟨rfl, rfl, rfl, hb⟩ := hrel
      by_cases hlt : 0 < n
      · go_wp2_with (go_at_call 35; refine (sPoolValid_any _ _ _ hs _ (hS.below hb hhi) (Nat.le_trans hhi hb.size) hn).mono ?_; rw [hv']; rintro e w1 ⟨rfl, hb1⟩)
        go_ret
        exact ⟨rfl, hb.trans (hb1.mono hb.size)⟩
      · obtain rfl : n = 0 := by omega
        go_wp2
        go_ret
        exact ⟨rfl, hb⟩
end Go.Proofs.Ytfobcggcilbgbaa
