/-
  GetPacket of both packages: one Lean function; l14Same; the string of a slice of bytes.
-/
import Derived.Test.YtleammkpfknngaaPktPutS
import Derived.Test.YtleammkpfknngaaStr
namespace Go.Proofs.Ytleammkpfknngaa
open Go.RowKit
set_option linter.unusedVariables false

/-- Are these the bytes of a valid packet? -/
def getV (zs : List Int) : Bool := decide (6 ≤ zs.length) && (putP (zs[4]?.getD 0) (zs[5]?.getD 0) (zs[1]?.getD 0) (zs[2]?.getD 0) (zs.drop 6) == zs)
def getF (zs : List Int) (i : Nat) : Int := if getV zs then zs[i]?.getD 0 else 0
def getB (zs : List Int) : List Int := if getV zs then zs.drop 6 else []
theorem getV_short {zs : List Int} (h : ¬ 6 ≤ zs.length) : getV zs = false := by unfold getV; simp [h]
theorem getV_long {zs : List Int} (h : 6 ≤ zs.length) : getV zs = (putP (zs[4]?.getD 0) (zs[5]?.getD 0) (zs[1]?.getD 0) (zs[2]?.getD 0) (zs.drop 6) == zs) := by unfold getV; simp [h]
theorem getV_valid {zs : List Int} (h : getV zs = true) : 6 ≤ zs.length ∧ pktV (zs[4]?.getD 0) (zs[5]?.getD 0) (zs[1]?.getD 0) (zs[2]?.getD 0) (zs.drop 6).length = true ∧ putP (zs[4]?.getD 0) (zs[5]?.getD 0) (zs[1]?.getD 0) (zs[2]?.getD 0) (zs.drop 6) = zs := by
  unfold getV at h
  simp only [Bool.and_eq_true, decide_eq_true_eq, beq_iff_eq] at h
  refine ⟨h.1, ?_, h.2⟩
  by_cases hv : pktV (zs[4]?.getD 0) (zs[5]?.getD 0) (zs[1]?.getD 0) (zs[2]?.getD 0) (zs.drop 6).length = true
  · exact hv
  · have h2 := h.2
    rw [putP_bad (Bool.eq_false_iff.2 hv)] at h2
    have := h.1
    rw [← h2] at this
    simp at this

/-- A call hands back a packet with a body of its own, and a bool. -/
def RetPkt (w : World) (f t k l : Int) (body : List Int) (ok : Bool) (e : Ending) (w' : World) : Prop := ∃ A n c, e = .returned (.tuple #[.agg #[.int .i64 f, .int .i64 t, .int .i64 k, .int .i64 l, .slice A n c], .bool ok]) ∧ body.length = n ∧ w'.ownsRow w.heap.size 5 1 (.slice A n c) n (body.map (Value.int .u8)) ∧ Below w.heap.size w w'
theorem RetPkt.zero {w w' : World} (hb : Below w.heap.size w w') : RetPkt w 0 0 0 0 [] false (.returned (.tuple #[.agg #[.int .i64 0, .int .i64 0, .int .i64 0, .int .i64 0, .slice none 0 0], .bool false])) w' := ⟨none, 0, 0, rfl, rfl, World.ownsRow_nil _ _ _ _, hb⟩

/-- Do two lists read alike? -/
theorem l14Same_any (A A' : Option Addr) (n n' c c' : Nat) (xs ys : List Int) (w : World) {lo hi lo' hi' : Nat} (hs : Sl w lo hi 1 A n (xs.map (Value.int .u8))) (hs' : Sl w lo' hi' 1 A' n' (ys.map (Value.int .u8))) (hn : n ≤ 1048576) (hn' : n' ≤ 1048576) :
    Calls Try.prog 46 #[.slice A n c, .slice A' n' c'] w fun e w' => e = .returned (.bool (xs == ys)) ∧ Below w.heap.size w w' := by
  have HX := Lib.hid hs.len
  have HY := Lib.hid hs'.len
  by_cases hnn : n = n'
  · subst hnn
    go_enter Try.func46, Try.ntmps46
    go_wp2
    go_loopw [5] (fun i wr => ∃ (k m : Nat), k ≤ n ∧ i = .int .i64 k ∧ AlikeByte xs ys k ∧ wr = w.drewN m) (fun i _ => n - (intOf i).toNat)
    case atStart => exact ⟨0, 0, Nat.zero_le _, rfl, fun i h => absurd h (by omega), rfl⟩
    case round =>
      obtain ⟨k, m, hk, rfl, hal, rfl⟩ := hrel
      have HA := Lib.hid hal
      clear hal
      by_cases hlt : k < n
      · obtain ⟨b, off, rfl, _, _, hc, _⟩ := hs.Byte hlt
        obtain ⟨b', off', rfl, _, _, hc', _⟩ := hs'.Byte hlt
        obtain ⟨x, hx⟩ : ∃ x, xs[k]?.getD 0 = x := ⟨_, rfl⟩
        obtain ⟨y, hy⟩ : ∃ y, ys[k]?.getD 0 = y := ⟨_, rfl⟩
        rw [hx] at hc
        rw [hy] at hc'
        have HXX := Lib.hid hx
        have HYY := Lib.hid hy
        clear hx hy
        by_cases hxy : x = y
        · subst hxy
          go_wp2
          go_region
          all_goals
            go_wp2
            go_roundw
            case rel => exact ⟨k + 1, m + 1, by omega, by go_num, fun i hi' => by
              rcases Nat.lt_or_ge i k with h | h
              · exact HA.out i h
              · obtain rfl : i = k := by omega
                rw [HXX.out, HYY.out], rfl⟩
            case measure => simp [intOf]; omega
        · have hne : ((x : Int) != y) = true := by simpa using hxy
          go_wp2
          go_region
          all_goals
            go_wp2
            go_ret
            refine ⟨ret_bool ?_, below_drewN (Below.refl _ _) (m + 1)⟩
            symm
            rw [beq_eq_false_iff_ne]
            intro e
            rw [e, HYY.out] at HXX
            exact hxy HXX.out.symm
      · obtain rfl : n = k := by omega
        go_wp2
        go_ret
        refine ⟨ret_bool ?_, below_drewN (Below.refl _ _) _⟩
        symm
        rw [beq_iff_eq]
        exact HA.out.all HX.out HY.out
  · have hne : ((n : Int) != (n' : Int)) = true := by simp; omega
    go_enter Try.func46, Try.ntmps46
    go_wp2
    go_ret
    refine ⟨ret_bool ?_, Below.refl _ _⟩
    symm
    rw [beq_eq_false_iff_ne]
    intro e
    have := congrArg List.length e
    rw [HX.out, HY.out] at this
    exact hnn this
end Go.Proofs.Ytleammkpfknngaa
