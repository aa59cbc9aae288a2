/-
  The string of a slice of bytes; no function of the program.
-/
import Derived.Test.YtgdcfhifiincaaaBase
import Derived.Laws.BytesArg
namespace Go.Proofs.Ytgdcfhifiincaaa
open Go.RowKit
set_option linter.unusedVariables false

theorem run_convert_sl {P : Program} (w : World) (src e dst : TypeId) (hs : P.underlying src = some (.slice e)) (he : P.underlying e = some (.int .u8)) (hd : P.underlying dst = some .string) {lo hi : Nat} {A : Option Addr} {n : Nat} (c : Nat) {zs : List Int} (h : Sl w lo hi 1 A n (zs.map (Value.int .u8))) :
    (convert src dst (.slice A n c)).run P w = .ok (.string (strOfNums zs)) w := by
  have hl := h.len
  rcases Nat.eq_zero_or_pos n with h0 | h0
  · subst h0
    obtain rfl : zs = [] := List.eq_nil_of_length_eq_zero hl
    rcases A with _ | ad
    · exact run_convert_bytes_nil w src e hs he 0 c dst hd
    · have hk : (loadCells ad 0).run P w = .ok (([] : List Int).map (Value.int .u8)).toArray w := by
        have := run_loadCells_list (P := P) w ad [] (fun j v hj => by simp at hj)
        simpa using this
      rw [run_convert_bytes_string w src dst e _ 0 c hs he hd, run_bytesToString w ad 0 c [] hk]
      rfl
  · obtain ⟨b, off, rfl, _, _, hc⟩ := h.2 h0
    exact run_convert_bytes_arg w src e hs he b off n c zs hl (fun i hi' => by
      refine hc i _ ?_
      have : i < zs.length := by omega
      simp [List.getD, List.getElem?_eq_getElem this]) dst hd

theorem strOf_inj {xs ys : List Int} (hx : AllByte xs) (hy : AllByte ys) (h : strOfNums xs = strOfNums ys) : xs = ys := by
  have h1 : xs.map (fun n => UInt8.ofNat n.toNat) = ys.map (fun n => UInt8.ofNat n.toNat) := by
    rw [← strOfNums_data, ← strOfNums_data, h]
  apply List.ext_getElem
  · have := congrArg List.length h1; simpa using this
  · intro i hi hj
    have h2 := congrArg (fun l => l[i]?) h1
    simp [List.getElem?_eq_getElem hi, List.getElem?_eq_getElem hj] at h2
    have a := hx _ (List.getElem_mem hi)
    have b := hy _ (List.getElem_mem hj)
    have h3 := congrArg UInt8.toNat h2
    simp at h3
    omega
theorem strOf_beq {xs ys : List Int} (hx : AllByte xs) (hy : AllByte ys) : ((strOfNums xs).toList == (strOfNums ys).toList) = (xs == ys) := by
  rw [Bool.eq_iff_iff, beq_iff_eq, beq_iff_eq]
  refine ⟨fun h => strOf_inj hx hy ?_, fun h => by rw [h]⟩
  have h1 : (strOfNums xs).data.toList = (strOfNums ys).data.toList := by rwa [ByteArray.toList_eq, ByteArray.toList_eq] at h
  exact congrArg ByteArray.mk (Array.toList_inj.1 h1)

end Go.Proofs.Ytgdcfhifiincaaa
