/-
  PutPacket of both packages: one Lean function.
-/
import Derived.Test.YtleammkpfknngaaPktC
import Derived.Test.YtleammkpfknngaaSumA
import Derived.Test.YtleammkpfknngaaAppend
import Derived.Test.YtleammkpfknngaaRetOwn
namespace Go.Proofs.Ytleammkpfknngaa
open Go.RowKit
set_option linter.unusedVariables false

/-- The bytes without the sum. -/
def restP (f t k l : Int) (zs : List Int) : List Int := [6 + (zs.length : Int), k, l, f, t] ++ zs
def putP (f t k l : Int) (zs : List Int) : List Int := if pktV f t k l zs.length then [6 + (zs.length : Int), k, l, sumS (restP f t k l zs), f, t] ++ zs else []
theorem putP_bad {f t k l : Int} {zs : List Int} (h : pktV f t k l zs.length = false) : putP f t k l zs = [] := by unfold putP; rw [h]; rfl
theorem putP_good {f t k l : Int} {zs : List Int} (h : pktV f t k l zs.length = true) : putP f t k l zs = [6 + (zs.length : Int), k, l, sumS (restP f t k l zs), f, t] ++ zs := by unfold putP; rw [h]; rfl
theorem pktV_iff {f t k l : Int} {n : Nat} : pktV f t k l n = true ↔ (0 ≤ f ∧ f ≤ 255) ∧ (0 ≤ t ∧ t ≤ 255) ∧ (1 ≤ k ∧ k ≤ 3) ∧ (0 ≤ l ∧ l ≤ 64) ∧ n ≤ 80 := by
  unfold pktV
  simp only [Bool.and_eq_true, inB_iff, decide_eq_true_eq]
  omega
theorem rest_byte {f t k l : Int} {zs : List Int} (h : pktV f t k l zs.length = true) (hz : AllByte zs) : AllByte (restP f t k l zs) := by
  have hv := pktV_iff.1 h
  intro z hm
  unfold restP at hm
  simp at hm
  rcases hm with rfl | rfl | rfl | rfl | rfl | hm
  · omega
  · omega
  · omega
  · omega
  · omega
  · exact hz z hm
theorem own_apart' {w w1 : World} {base : Nat} {e : TypeId} {size n : Nat} {v : Value} {xs : List Value} {row : Option Nat} (h : w.ownsRow base e size v n xs) (hg : w.grownBy w1 row) (hne : ∀ k, v.ownBlock = some k → row ≠ some k) : w1.ownsRow base e size v n xs := by
  refine h.kept hg ?_
  cases hv : v.ownBlock with
  | none => exact .inl rfl
  | some k => exact .inr fun e => hne k hv e.symm
theorem one_u8 (zs : List Int) : ∀ u ∈ zs.map (Value.int .u8), u.oneCell' = true := by
  intro u hu
  simp at hu
  obtain ⟨z, _, rfl⟩ := hu
  rfl

theorem own_rest {w : World} {base : Nat} {e : TypeId} {v : Value} {f t k l : Int} {zs : List Int} {n : Nat} (hl : zs.length = n) (h : w.ownsRow base e 1 v (5 + n) ([.int .u8 (6 + (n : Int)), .int .u8 k, .int .u8 l, .int .u8 f, .int .u8 t] ++ zs.map (Value.int .u8))) : w.ownsRow base e 1 v (5 + n) ((restP f t k l zs).map (Value.int .u8)) := by
  subst hl
  exact h
theorem putP_len {f t k l : Int} {zs : List Int} (h : pktV f t k l zs.length = true) : (putP f t k l zs).length = 6 + zs.length := by rw [putP_good h]; simp; omega
theorem put_eq {f t k l : Int} {zs : List Int} (h : pktV f t k l zs.length = true) : [] ++ ((restP f t k l zs).map (Value.int .u8)).take (3 * 1) ++ [.int .u8 (sumS (restP f t k l zs))] ++ ((restP f t k l zs).map (Value.int .u8)).drop (3 * 1) = (putP f t k l zs).map (Value.int .u8) := by
  rw [putP_good h]
  rfl
theorem sl_cut3 {w : World} {base : Nat} {e : TypeId} {q n cap : Nat} {xs : List Value} (h : w.ownsRow base e 1 (.slice (some ⟨q, 0, none⟩) (5 + n) cap) (5 + n) xs) (hc : 5 + n ≤ cap) : Sl w base w.heap.size 1 (some ⟨q, 3, none⟩) (5 + n - 3) (xs.drop (3 * 1)) := by
  have := (Sl.of_own h).cut (k := 3) (cap := cap) (by omega) hc
  rw [if_neg (by omega)] at this
  exact this
set_option maxHeartbeats 800000 in
theorem iPutPacket_any (f t k l : Int) (A : Option Addr) (n c : Nat) (zs : List Int) (w : World) {lo hi : Nat} (hs : Sl w lo hi 1 A n (zs.map (Value.int .u8))) (hhi : hi ≤ w.heap.size) (hn : n ≤ 1048576) (hby : AllByte zs) :
    Calls Try.prog 20 #[.agg #[.int .i64 f, .int .i64 t, .int .i64 k, .int .i64 l, .slice A n c]] w (RetOwn w 5 1 (putP f t k l zs).length ((putP f t k l zs).map (Value.int .u8))) := by
  obtain ⟨i0, hi0, hz0, hz1, hz2⟩ := info_parts infoByte
  have HL := Lib.hid hs.len
  by_cases hv : pktV f t k l n = true
  · have hb := pktV_iff.1 hv
    obtain ⟨hb1, hb2, hb3, hb4, hb5⟩ := hb
    obtain ⟨s, hse, hs1⟩ : ∃ s, sumS (restP f t k l zs) = s ∧ 1 ≤ s ∧ s ≤ 255 := ⟨_, rfl, sumS_bd _⟩
    have HS := Lib.hid hse
    have hrb : AllByte (restP f t k l zs) := rest_byte (by rw [HL.out]; exact hv) hby
    clear hse
    have ownR := World.ownsRow_lit (base := w.heap.size) (e := 5) (size := 1) ((w.alloc (.cells #[.int .i64 f, .int .i64 t, .int .i64 k, .int .i64 l, .slice A n c] 27)).alloc (.cells #[.int .i64 f, .int .i64 t, .int .i64 k, .int .i64 l, .slice A n c] 27)) #[.int .u8 (6 + (n : Int)), .int .u8 k, .int .u8 l, .int .u8 f, .int .u8 t] 5 (by simp; omega) (by unfold maxLen; omega) (by simp)
    simp only [World.size_alloc] at ownR
    go_enter Try.func20, Try.ntmps20
    go_wp2_with (first
      | (go_at_call 15; refine (iPacketValid_any _ _ _ _ _ _ _ _).mono ?_; rw [hv]; rintro e w' ⟨rfl, rfl⟩)
      | (go_at_call 45; refine (iSum_any _ _ _ (restP f t k l zs) _ (Sl.of_own ownb) (by omega) hrb).mono ?_; rw [HS.out]; rintro e w' ⟨rfl, rfl⟩)
      | (at_builtin; first
        | (refine wpList_append_sl _ rfl _ _ 22 rfl w.heap.size 5 i0 _ 1 1 Try.underlying22 hi0 hz0 hz1 hz2 rfl (by decide) _ 5 _ (by rfl) ownR _ _ A n c (zs.map (Value.int .u8)) rfl (((hs.alloc hhi _).alloc (by simp; omega) _).alloc (by simp; omega) _) (one_u8 zs) (by unfold maxLen; omega) (by omega) (by simp; omega) ?_; intro v1 w1 own1 g1 at1; obtain ⟨q, cap1, hv1, hc1, hq1, hq2⟩ := own_slice own1 (by omega); subst hv1; have owna := own_rest HL.out own1; clear own1)
        | (refine wpList_append_sl _ rfl _ _ 22 rfl w.heap.size 5 i0 _ 1 1 Try.underlying22 hi0 hz0 hz1 hz2 rfl (by decide) _ 0 _ (by rfl) (World.ownsRow_nil _ _ _ _) _ _ (some ⟨q, 0, none⟩) 3 cap1 (((restP f t k l zs).map (Value.int .u8)).take (3 * 1)) rfl ((Sl.of_own owna).take (by omega)) (fun u hu => one_u8 _ u (List.mem_of_mem_take hu)) (by unfold maxLen; omega) (by omega) (by omega) ?_; intro v2 w2 own2 g2 at2; obtain ⟨q2, cap2, hv2, hc2, hq3, hq4⟩ := own_slice own2 (by omega); subst hv2; have ownb := own_apart' owna g2 (fun k _ h => by cases h))
        | (refine wpList_append_sl _ rfl _ _ 22 rfl w.heap.size 5 i0 _ 1 1 Try.underlying22 hi0 hz0 hz1 hz2 rfl (by decide) _ _ _ (by rfl) (own2.alloc _) _ _ (some ⟨w2.heap.size, 0, none⟩) 1 1 [.int .u8 s] rfl (Sl.new #[.int .u8 s] 5 1 1 rfl) (by intro u hu; simp at hu; subst hu; rfl) (by unfold maxLen; omega) (by omega) (by simp; omega) ?_; intro v3 w3 own3 g3 at3; obtain ⟨q3, cap3, hv3, hc3, hq5, hq6⟩ := own_slice own3 (by omega); subst hv3; have hqq : q ≠ q2 := by { rcases at2 with h | h <;> simp [Value.ownBlock] at h <;> omega }; have ownc := own_apart' (ownb.alloc (.cells #[.int .u8 s] 5)) g3 (fun k hk h => by simp [Value.ownBlock] at hk h; omega); have sl3 := sl_cut3 ownc hc1)
        | (refine wpList_append_sl _ rfl _ _ 22 rfl w.heap.size 5 i0 _ 1 1 Try.underlying22 hi0 hz0 hz1 hz2 rfl (by decide) _ _ _ (by rfl) own3 _ _ (some ⟨q, 3, none⟩) (5 + n - 3) (cap1 - 3) (((restP f t k l zs).map (Value.int .u8)).drop (3 * 1)) rfl sl3 (fun u hu => one_u8 _ u (List.mem_of_mem_drop hu)) (by unfold maxLen; omega) (by omega) (by omega) ?_; intro v4 w4 own4 g4 at4)))
    go_ret
    have b0 := (((Below.refl w.heap.size w).alloc (Nat.le_refl _) (.cells #[.int .i64 f, .int .i64 t, .int .i64 k, .int .i64 l, .slice A n c] 27)).alloc (by simp) (.cells #[.int .i64 f, .int .i64 t, .int .i64 k, .int .i64 l, .slice A n c] 27)).alloc (by simp; omega) (.cells #[.int .u8 (6 + (n : Int)), .int .u8 k, .int .u8 l, .int .u8 f, .int .u8 t] 5)
    have b1 := below_append b0 ownR g1
    have b2 := below_append b1 (World.ownsRow_nil w1 w.heap.size 5 1) g2
    have b3 := below_append (b2.alloc b2.size _) (own2.alloc _) g3
    have b4 := below_append b3 own3 g4
    refine RetOwn.mk ?_ b4
    have hv2 : pktV f t k l zs.length = true := by rw [HL.out]; exact hv
    rw [putP_len hv2, HL.out, ← put_eq hv2, HS.out, show 6 + n = 0 + 3 + 1 + (5 + n - 3) from by omega]
    exact own4
  · have hv' := Bool.eq_false_iff.2 hv
    have HE := Lib.hid (putP_bad (f := f) (t := t) (k := k) (l := l) (zs := zs) (by rw [HL.out]; exact hv'))
    rw [HE.out]
    go_enter Try.func20, Try.ntmps20
    go_wp2_with (go_at_call 15; refine (iPacketValid_any _ _ _ _ _ _ _ _).mono ?_; rw [hv']; rintro e w' ⟨rfl, rfl⟩)
    go_ret
    exact RetOwn.mk (World.ownsRow_nil _ _ _ _) (((Below.refl _ _).alloc (Nat.le_refl _) _).alloc (by simp) _)
end Go.Proofs.Ytleammkpfknngaa
