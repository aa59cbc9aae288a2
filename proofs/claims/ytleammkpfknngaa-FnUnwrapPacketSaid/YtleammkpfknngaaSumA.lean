/-
  SumOf of both packages: one Lean function; the walk of the law FnExactSumOf.
-/
import Derived.Test.YtleammkpfknngaaCopyByte
namespace Go.Proofs.Ytleammkpfknngaa
open Go.RowKit
set_option linter.unusedVariables false

def sumL : List Int → Int
  | [] => 0
  | z :: r => z + sumL r
theorem sumL_append (a b : List Int) : sumL (a ++ b) = sumL a + sumL b := by
  induction a with
  | nil => simp [sumL]
  | cons z r ih => simp [sumL, ih]; omega
theorem sumL_reverse (a : List Int) : sumL a.reverse = sumL a := by
  induction a with
  | nil => rfl
  | cons z r ih => rw [List.reverse_cons, sumL_append, ih]; simp [sumL]; omega
theorem sumL_bd (zs : List Int) (h : AllByte zs) : 0 ≤ sumL zs ∧ sumL zs ≤ 255 * zs.length := by
  induction zs with
  | nil => simp [sumL]
  | cons z r ih =>
    have h1 := h z (by simp)
    have h2 := ih fun x hx => h x (by simp [hx])
    simp only [sumL, List.length_cons]
    omega
theorem sumL_step (zs : List Int) (k : Nat) (h : k < zs.length) : sumL (zs.take (k + 1)) = sumL (zs.take k) + zs[k]?.getD 0 := by
  rw [take_succ_getD zs k h, sumL_append]; simp [sumL]
def sumS (zs : List Int) : Int := 255 - sumL zs % 255
theorem sumS_bd (zs : List Int) : 1 ≤ sumS zs ∧ sumS zs ≤ 255 := by unfold sumS; omega
/-- The sum of the first k bytes. -/
def SumRel (zs : List Int) (k : Nat) (s : Int) : Prop := s = sumL (zs.take k)
theorem SumRel.start (zs : List Int) : SumRel zs 0 0 := rfl
theorem SumRel.bd {zs : List Int} {k : Nat} {s : Int} (h : SumRel zs k s) (hb : AllByte zs) {n : Nat} (hn : zs.length = n) : 0 ≤ s ∧ s ≤ 255 * n := by
  have h1 := sumL_bd _ (hb.take k)
  have h2 : (zs.take k).length ≤ n := by simp; omega
  rw [h]
  omega
theorem SumRel.next {zs : List Int} {k : Nat} {s : Int} (h : SumRel zs k s) (hk : k < zs.length) : SumRel zs (k + 1) (s + zs[k]?.getD 0) := by
  unfold SumRel at h ⊢
  rw [sumL_step zs k hk, h]
theorem SumRel.done {zs : List Int} {s : Int} (h : SumRel zs zs.length s) : sumS zs = 255 - s % 255 := by
  unfold SumRel at h
  rw [List.take_length] at h
  rw [h]; rfl

theorem sSum_any (A : Option Addr) (n c : Nat) (zs : List Int) (w : World) {lo hi : Nat} (hs : Sl w lo hi 1 A n (zs.map (Value.int .u8))) (hn : n ≤ 1048576) (hby : AllByte zs) :
    Calls Try.prog 44 #[.slice A n c] w fun e w' => e = .returned (.int .i64 (sumS zs)) ∧ w = w' := by
  have HL := Lib.hid hs.len
  go_enter Try.func44, Try.ntmps44
  go_wp2
  go_loop [3, 4] (fun s i => ∃ (k : Nat) (t : Int), k ≤ n ∧ i = .int .i64 k ∧ s = .int .i64 t ∧ SumRel zs k t) (fun _ i => n - (intOf i).toNat)
  case atStart => exact ⟨0, 0, Nat.zero_le _, rfl, rfl, SumRel.start zs⟩
  case round =>
    obtain ⟨k, t, hk, rfl, rfl, hr⟩ := hrel
    have hbd := hr.bd hby HL.out
    by_cases hlt : k < n
    · obtain ⟨b, off, rfl, _, _, hc, _⟩ := hs.Byte hlt
      have hnext := hr.next (by rw [HL.out]; exact hlt)
      have hz := hby.at_ k
      obtain ⟨x, hx⟩ : ∃ x, zs[k]?.getD 0 = x := ⟨_, rfl⟩
      rw [hx] at hnext hz hc
      clear hx
      go_wp2
      go_round
      case rel => exact ⟨k + 1, _, by omega, by go_num, rfl, hnext⟩
      case measure => simp [intOf]; omega
    · obtain rfl : n = k := by omega
      have HE := Lib.hid (SumRel.done (by rw [HL.out]; exact hr))
      go_wp2
      go_ret
      exact ⟨ret_int HE.out.symm, rfl⟩

theorem iSum_any (A : Option Addr) (n c : Nat) (zs : List Int) (w : World) {lo hi : Nat} (hs : Sl w lo hi 1 A n (zs.map (Value.int .u8))) (hn : n ≤ 1048576) (hby : AllByte zs) :
    Calls Try.prog 45 #[.slice A n c] w fun e w' => e = .returned (.int .i64 (sumS zs)) ∧ w = w' := by
  have HL := Lib.hid hs.len
  go_enter Try.func45, Try.ntmps45
  go_wp2
  go_loop [3, 8] (fun s i => ∃ (k : Nat) (t : Int), k ≤ n ∧ i = .int .i64 k ∧ s = .int .i64 t ∧ SumRel zs k t) (fun _ i => n - (intOf i).toNat)
  case atStart => exact ⟨0, 0, Nat.zero_le _, rfl, rfl, SumRel.start zs⟩
  case round =>
    obtain ⟨k, t, hk, rfl, rfl, hr⟩ := hrel
    have hbd := hr.bd hby HL.out
    by_cases hlt : k < n
    · obtain ⟨b, off, rfl, _, _, hc, _⟩ := hs.Byte hlt
      have hnext := hr.next (by rw [HL.out]; exact hlt)
      have hz := hby.at_ k
      obtain ⟨x, hx⟩ : ∃ x, zs[k]?.getD 0 = x := ⟨_, rfl⟩
      rw [hx] at hnext hz hc
      clear hx
      go_wp2
      go_round
      case rel => exact ⟨k + 1, _, by omega, by go_num, rfl, hnext⟩
      case measure => simp [intOf]; omega
    · obtain rfl : n = k := by omega
      have HE := Lib.hid (SumRel.done (by rw [HL.out]; exact hr))
      go_wp2
      go_ret
      exact ⟨ret_int HE.out.symm, rfl⟩

end Go.Proofs.Ytleammkpfknngaa
