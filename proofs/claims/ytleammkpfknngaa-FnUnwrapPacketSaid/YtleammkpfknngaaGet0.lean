/-
  Words for GetPacket of both packages.
-/
import Derived.Test.YtleammkpfknngaaGet
import Derived.Test.YtleammkpfknngaaMixB
import Derived.Test.YtleammkpfknngaaFive
namespace Go.Proofs.Ytleammkpfknngaa
open Go.RowKit
set_option linter.unusedVariables false

theorem one_u8d (zs : List Int) (k : Nat) : ∀ u ∈ (zs.map (Value.int .u8)).drop k, u.oneCell' = true := fun u hu => one_u8 _ u (List.mem_of_mem_drop hu)
theorem getF_no {zs : List Int} {i : Nat} (h : getV zs = false) : getF zs i = 0 := by unfold getF; rw [h]; rfl
theorem getB_no {zs : List Int} (h : getV zs = false) : getB zs = [] := by unfold getB; rw [h]; rfl
theorem nil_beq {zs : List Int} (h : 0 < zs.length) : (([] : List Int) == zs) = false := by
  cases zs with
  | nil => simp at h
  | cons _ _ => rfl
theorem putP_byte {f t k l : Int} {zs : List Int} (hz : AllByte zs) : AllByte (putP f t k l zs) := by
  by_cases hv : pktV f t k l zs.length = true
  · rw [putP_good hv]
    have hb := pktV_iff.1 hv
    have hs := sumS_bd (restP f t k l zs)
    intro z hm
    simp at hm
    rcases hm with rfl | rfl | rfl | rfl | rfl | rfl | hm
    · omega
    · omega
    · omega
    · omega
    · omega
    · omega
    · exact hz z hm
  · rw [putP_bad (Bool.eq_false_iff.2 hv)]
    intro z hm
    simp at hm
/-- A packet of known numbers, its body its own. -/
def tPkt5 (B : Nat) (f t k l : Int) (n : Nat) (xs : List Value) : VT := fun u w => ∃ A c, u = .agg #[.int .i64 f, .int .i64 t, .int .i64 k, .int .i64 l, .slice A n c] ∧ n ≤ c ∧ c ≤ maxLen ∧ w.ownsRow B 5 1 (.slice A n c) n xs
theorem keep_pkt5 {B : Nat} {f t k l : Int} {n : Nat} {xs : List Value} : Keep (tPkt5 B f t k l n xs) := by
  rintro v w w' hg ⟨A, c, rfl, h1, h2, h⟩
  exact ⟨A, c, rfl, h1, h2, New.own hg h⟩


end Go.Proofs.Ytleammkpfknngaa
