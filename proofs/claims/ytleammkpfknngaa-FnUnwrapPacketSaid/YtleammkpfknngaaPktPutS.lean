/-
  PutPacket of spec.
-/
import Derived.Test.YtleammkpfknngaaPktPut
import Derived.Deep.RegionHeldLaw
namespace Go.Proofs.Ytleammkpfknngaa
open Go.RowKit
set_option linter.unusedVariables false

/-- The bytes with 0 for the sum. -/
def zeroP (f t k l : Int) (zs : List Int) : List Int := [6 + (zs.length : Int), k, l, 0, f, t] ++ zs
theorem sl_cut4 {w : World} {base : Nat} {e : TypeId} {q n cap : Nat} {xs : List Value} (h : w.ownsRow base e 1 (.slice (some ⟨q, 0, none⟩) (6 + n) cap) (6 + n) xs) (hc : 6 + n ≤ cap) : Sl w base w.heap.size 1 (some ⟨q, 4, none⟩) (6 + n - 4) (xs.drop (4 * 1)) := by
  have := (Sl.of_own h).cut (k := 4) (cap := cap) (by omega) hc
  rw [if_neg (by omega)] at this
  exact this
theorem rest_eq {f t k l : Int} {zs : List Int} : [] ++ ((zeroP f t k l zs).map (Value.int .u8)).take (3 * 1) ++ ((zeroP f t k l zs).map (Value.int .u8)).drop (4 * 1) = (restP f t k l zs).map (Value.int .u8) := rfl
theorem put_eq2 {f t k l : Int} {zs : List Int} (h : pktV f t k l zs.length = true) : ((zeroP f t k l zs).map (Value.int .u8)).set 3 (.int .u8 (sumS (restP f t k l zs))) = (putP f t k l zs).map (Value.int .u8) := by
  rw [putP_good h]
  rfl
theorem own_zero {w : World} {base : Nat} {e : TypeId} {v : Value} {f t k l : Int} {zs : List Int} {n : Nat} (hl : zs.length = n) (h : w.ownsRow base e 1 v (6 + n) ([.int .u8 (6 + (n : Int)), .int .u8 k, .int .u8 l, .int .u8 0, .int .u8 f, .int .u8 t] ++ zs.map (Value.int .u8))) : w.ownsRow base e 1 v (6 + n) ((zeroP f t k l zs).map (Value.int .u8)) := by
  subst hl
  exact h

set_option maxHeartbeats 800000 in
theorem sPutPacket_any (f t k l : Int) (A : Option Addr) (n c : Nat) (zs : List Int) (w : World) {lo hi : Nat} (hs : Sl w lo hi 1 A n (zs.map (Value.int .u8))) (hhi : hi ≤ w.heap.size) (hn : n ≤ 1048576) (hby : AllByte zs) :
    Calls Try.prog 19 #[.agg #[.int .i64 f, .int .i64 t, .int .i64 k, .int .i64 l, .slice A n c]] w (RetOwn w 5 1 (putP f t k l zs).length ((putP f t k l zs).map (Value.int .u8))) := by
  obtain ⟨i0, hi0, hz0, hz1, hz2⟩ := info_parts infoByte
  have HL := Lib.hid hs.len
  by_cases hv : pktV f t k l n = true
  · have hb := pktV_iff.1 hv
    obtain ⟨hb1, hb2, hb3, hb4, hb5⟩ := hb
    obtain ⟨s, hse, hs1⟩ : ∃ s, sumS (restP f t k l zs) = s ∧ 1 ≤ s ∧ s ≤ 255 := ⟨_, rfl, sumS_bd _⟩
    have HS := Lib.hid hse
    have hrb : AllByte (restP f t k l zs) := rest_byte (by rw [HL.out]; exact hv) hby
    clear hse
    have ownR := World.ownsRow_lit (base := w.heap.size) (e := 5) (size := 1) ((w.alloc (.cells #[.int .i64 f, .int .i64 t, .int .i64 k, .int .i64 l, .slice A n c] 27)).alloc (.cells #[.int .i64 f, .int .i64 t, .int .i64 k, .int .i64 l, .slice A n c] 27)) #[.int .u8 (6 + (n : Int)), .int .u8 k, .int .u8 l, .int .u8 0, .int .u8 f, .int .u8 t] 6 (by simp; omega) (by unfold maxLen; omega) (by simp)
    simp only [World.size_alloc] at ownR
    go_enter Try.func19, Try.ntmps19
    go_wp2_with (first
      | (go_at_call 13; refine (sPacketValid_any _ _ _ _ _ _ _ _).mono ?_; rw [hv]; rintro e w' ⟨rfl, rfl⟩)
      | (at_builtin; go_loud (refine wpList_append_sl _ rfl _ _ 22 rfl w.heap.size 5 i0 _ 1 1 Try.underlying22 hi0 hz0 hz1 hz2 rfl (by decide) _ 6 _ (by rfl) ownR _ _ A n c (zs.map (Value.int .u8)) rfl (((hs.alloc hhi _).alloc (by simp; omega) _).alloc (by simp; omega) _) (one_u8 zs) (by unfold maxLen; omega) (by omega) (by simp; omega) ?_; intro v1 w1 own1 g1 at1; obtain ⟨q, cap1, hv1, hc1, hq1, hq2⟩ := own_slice own1 (by omega); subst hv1; have owna := own_zero HL.out own1; clear own1)))
    have hi1 : (3 : Int) ≤ (cap1 : Int) := by omega
    have hi2 : (4 : Int) ≤ (6 + n : Int) := by omega
    have hi4 : ¬ cap1 = 4 := by omega
    have hi3 : (4 : Int) ≤ ((6 + n : Nat) : Int) := by omega
    have ownE := (World.ownsRow_lit (base := w.heap.size) (e := 5) (size := 1) w1 #[] 0 (by omega) (by unfold maxLen; omega) (by simp)).drew
    have ownD := (owna.alloc (.cells #[] 5)).drew
    go_region_held_law (fun _ => True) (trivial) (first
          | (refine step_append_sl _ (by rfl) _ _ 22 (by rfl) w.heap.size 5 i0 _ 1 1 Try.underlying22 hi0 hz0 hz1 hz2 rfl (by decide)  _ 0 [] (by rfl) ownE _ _ (some ⟨q, 0, none⟩) 3 cap1 (((zeroP f t k l zs).map (Value.int .u8)).take (3 * 1)) (by rfl) ((Sl.of_own ownD).take (by omega)) (fun u hu => one_u8 _ u (List.mem_of_mem_take hu)) (by unfold maxLen; omega) (by omega) (by simp; omega) ?_; intro v2 w2 own2 g2 at2; obtain ⟨q2, cap2, hv2, hc2, hq3, hq4⟩ := own_slice own2 (by omega); subst hv2; have ownF := own_apart' ownD g2 (fun k hk h => by simp [Value.ownBlock] at hk h; omega); have sl4 := sl_cut4 ownF hc1)
          | (refine step_append_sl _ (by rfl) _ _ 22 (by rfl) w.heap.size 5 i0 _ 1 1 Try.underlying22 hi0 hz0 hz1 hz2 rfl (by decide)  _ 3 _ (by rfl) own2 _ _ (some ⟨q, 4, none⟩) (6 + n - 4) (cap1 - 4) (((zeroP f t k l zs).map (Value.int .u8)).drop (4 * 1)) (by rfl) sl4 (fun u hu => one_u8 _ u (List.mem_of_mem_drop hu)) (by unfold maxLen; omega) (by omega) (by omega) ?_; intro v4 w4 own4 g4 at4; obtain ⟨q4, cap4, hv4, hc4, hq5, hq6⟩ := own_slice own4 (by omega); subst hv4; have hqq : q ≠ q2 := by { rcases at2 with h | h <;> simp [Value.ownBlock] at h <;> omega }; have ownG := own_apart' ownF g4 (fun k hk h => by simp [Value.ownBlock] at hk h; omega); rw [rest_eq] at own4; have fz := ownG.frozenAt 3; have cl : w4.cell? ⟨q, 3, none⟩ = some (.int .u8 0) := (ownG.cellAt 3 (by omega)).trans rfl))
    go_wp2_with (go_at_call 44; refine (sSum_any _ _ _ (restP f t k l zs) _ (Sl.of_own own4) (by omega) hrb).mono ?_; rw [HS.out]; rintro e w' ⟨rfl, rfl⟩)
    go_ret
    have b0 := (((Below.refl w.heap.size w).alloc (Nat.le_refl _) (.cells #[.int .i64 f, .int .i64 t, .int .i64 k, .int .i64 l, .slice A n c] 27)).alloc (by simp) (.cells #[.int .i64 f, .int .i64 t, .int .i64 k, .int .i64 l, .slice A n c] 27)).alloc (by simp; omega) (.cells #[.int .u8 (6 + (n : Int)), .int .u8 k, .int .u8 l, .int .u8 0, .int .u8 f, .int .u8 t] 5)
    have b1 := below_append b0 ownR g1
    have b2 := below_append (b1.alloc b1.size _).drew ownE g2
    have b3 := below_append b2 own2 g4
    have hv2 : pktV f t k l zs.length = true := by rw [HL.out]; exact hv
    have own5 := (ownG.stored 3 (.int .u8 s)).1
    rw [← HS.out, put_eq2 hv2] at own5
    rw [← HS.out]
    refine RetOwn.mk ?_ (b3.setCell (p := ⟨q, 3, none⟩) hq1 _)
    rw [putP_len hv2, HL.out]
    exact own5
  · have hv' := Bool.eq_false_iff.2 hv
    have HE := Lib.hid (putP_bad (f := f) (t := t) (k := k) (l := l) (zs := zs) (by rw [HL.out]; exact hv'))
    rw [HE.out]
    go_enter Try.func19, Try.ntmps19
    go_wp2_with (go_at_call 13; refine (sPacketValid_any _ _ _ _ _ _ _ _).mono ?_; rw [hv']; rintro e w' ⟨rfl, rfl⟩)
    go_ret
    have ownE := World.ownsRow_lit (base := w.heap.size) (e := 5) (size := 1) ((w.alloc (.cells #[.int .i64 f, .int .i64 t, .int .i64 k, .int .i64 l, .slice A n c] 27)).alloc (.cells #[.int .i64 f, .int .i64 t, .int .i64 k, .int .i64 l, .slice A n c] 27)) #[] 0 (by simp; omega) (by unfold maxLen; omega) (by simp)
    simp only [World.size_alloc] at ownE
    exact RetOwn.mk ownE ((((Below.refl _ _).alloc (Nat.le_refl _) _).alloc (by simp) _).alloc (by simp; omega) _)
end Go.Proofs.Ytleammkpfknngaa
