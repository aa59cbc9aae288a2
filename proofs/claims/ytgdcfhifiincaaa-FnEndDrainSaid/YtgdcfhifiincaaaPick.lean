/-
  pick and odd: their contracts.
-/
import Derived.Test.YtgdcfhifiincaaaRd
import Derived.IntWalk
namespace Go.Proofs.Ytgdcfhifiincaaa
open Go.RowKit
set_option linter.unusedVariables false

theorem Blk.setTwo {w : World} {g : Nat} {t : TypeId} {a b u : Value} (h : Blk w g t #[a, b]) : Blk (w.setCell ⟨g, 1, none⟩ u) g t #[a, u] := h.set_ 1 u

theorem rd_step {w : World} {g P : Nat} {A : Option Addr} {n c p : Nat} {zs : List Int} (hn : n ≤ 2000) (hnc : n ≤ c) (hc : c ≤ 9223372036854775807) (hp : p ≤ P) (hz : AllByte zs) (hs : Sl w 0 g 1 A n (zs.map (Value.int .u8)))
    (hb : Blk w g 85 #[.slice A n c, .int .i64 p]) (q : Nat) : RdC w ((w.setCell ⟨g, 1, none⟩ (.int .i64 ((p : Int) + 1))).drewN q) g (P + 1) ∧ w.grownBy ((w.setCell ⟨g, 1, none⟩ (.int .i64 ((p : Int) + 1))).drewN q) (some g) := by
  refine ⟨⟨⟨A, n, c, p + 1, zs, hn, hnc, hc, by omega, hz, ?_, ?_⟩, ?_⟩, ⟨rfl, rfl, rfl, ?_, ?_⟩⟩
  · exact (hs.setCell (p := ⟨g, 1, none⟩) (.inl (Nat.le_refl _)) _).drewN q
  · have := (hb.set_ 1 (.int .i64 ((p : Int) + 1))).drewN q
    exact this
  · exact World.cell?_setCell_other w ⟨g, 1, none⟩ ⟨g, 0, none⟩ _ (by simp)
  · simp
  · intro k hk hne
    show (w.setCell ⟨g, 1, none⟩ _).heap[k]? = _
    exact Below.heap_setCell w ⟨g, 1, none⟩ _ k (fun e => hne (by rw [e]))
theorem Picked.mk {w : World} {g P : Nat} {A : Option Addr} {n c p : Nat} {zs : List Int} (hn : n ≤ 2000) (hnc : n ≤ c) (hc : c ≤ 9223372036854775807) (hp : p ≤ P) (hz : AllByte zs) (hs : Sl w 0 g 1 A n (zs.map (Value.int .u8)))
    (hb : Blk w g 85 #[.slice A n c, .int .i64 p]) (q : Nat) {v lo hi : Int} (h1 : lo ≤ v) (h2 : v ≤ hi) : Picked w g (P + 1) lo hi (.returned (.int .i64 v)) ((w.setCell ⟨g, 1, none⟩ (.int .i64 ((p : Int) + 1))).drewN q) :=
  ⟨v, h1, h2, rfl, rd_step hn hnc hc hp hz hs hb q⟩
theorem mod_bd {x n : Int} (h : 1 ≤ n) : 0 ≤ x % n ∧ x % n ≤ n - 1 := by
  have h1 := Int.emod_nonneg x (show n ≠ 0 by omega)
  have h2 := Int.emod_lt_of_pos x (show 0 < n by omega)
  omega
theorem tmod_bd {x n : Int} (hx : 0 ≤ x) (h : 1 ≤ n) : 0 ≤ x.tmod n ∧ x.tmod n ≤ n - 1 := by
  rw [Int.tmod_eq_emod_of_nonneg hx]
  exact mod_bd h

theorem xor_nn {x y : Int} (hx : 0 ≤ x) (hx1 : x < 2 ^ 62) (hy : 0 ≤ y) (hy1 : y < 2 ^ 62) : 0 ≤ bits .xor .i64 x y := by
  obtain ⟨a, rfl⟩ : ∃ a : Nat, x = a := ⟨x.toNat, by omega⟩
  obtain ⟨b, rfl⟩ : ∃ b : Nat, y = b := ⟨y.toNat, by omega⟩
  have ha : a < 2 ^ 62 := by omega
  have hb : b < 2 ^ 62 := by omega
  have e : (BitVec.ofInt 64 (a : Int) ^^^ BitVec.ofInt 64 (b : Int)).toNat = a ^^^ b := by
    rw [BitVec.toNat_xor, BitVec.ofInt_natCast, BitVec.ofInt_natCast, BitVec.toNat_ofNat, BitVec.toNat_ofNat, Nat.mod_eq_of_lt (by omega), Nat.mod_eq_of_lt (by omega)]
  have hlt : a ^^^ b < 2 ^ 62 := Nat.xor_lt_two_pow ha hb
  show 0 ≤ IntKind.i64.wrap ((BitVec.ofInt 64 (a : Int) ^^^ BitVec.ofInt 64 (b : Int)).toNat : Int)
  rw [e, IntWalk.i64_in _ (by omega)]
  omega

theorem pick_any (g P : Nat) (n : Int) (w : World) (h : Rd w g P) (hP : P ≤ 1000000000) (h1 : 1 ≤ n) (h2 : n ≤ 1000000000) :
    Calls Try.prog 59 #[.pointer (some ⟨g, 0, none⟩), .int .i64 n] w (Picked w g (P + 1) 0 (n - 1)) := by
  obtain ⟨A, m, c, p, zs, hm, hmc, hc, hp, hz, hs, hb⟩ := h
  have hl := hb.lt
  obtain ⟨c0, c1, hf⟩ := hb.two
  have hf1 := hf 1
  clear hf
  by_cases hm0 : m = 0
  · subst hm0
    go_enter Try.func59, Try.ntmps59
    go_wp2
    go_ret
    exact Picked.mk hm hmc hc hp hz hs hb 0 (by omega) (by omega)
  · by_cases hlt : p < m
    · obtain ⟨b, off, rfl, _, hbg, hcell⟩ := hs.num hlt
      have hne : ¬ b = g := by omega
      have hx := hz.at_ p
      obtain ⟨x, hxe⟩ : ∃ x, zs[p]?.getD 0 = x := ⟨_, rfl⟩
      rw [hxe] at hcell hx
      clear hxe
      have hbd := mod_bd (x := x) h1
      go_enter Try.func59, Try.ntmps59
      go_wp2
      go_ret
      exact Picked.mk hm hmc hc hp hz hs hb 0 hbd.1 hbd.2
    · have hcell := fun i (hi : i < m) => hs.num hi
      obtain ⟨b, off, rfl, _, hbg, _⟩ := hcell 0 (by omega)
      have hne : ¬ b = g := by omega
      have p1 := mod_bd (x := (p : Int)) (n := (m : Int)) (by omega)
      have p2 := mod_bd (x := (p : Int) * 7 + 3) (n := (m : Int)) (by omega)
      have p3 : 0 ≤ (p : Int) / (m : Int) ∧ (p : Int) / (m : Int) ≤ p := ⟨Int.ediv_nonneg (by omega) (by omega), Int.ediv_le_self _ (by omega)⟩
      obtain ⟨i1, e1⟩ : ∃ i : Nat, (p : Int) % (m : Int) = i := ⟨((p : Int) % (m : Int)).toNat, by omega⟩
      obtain ⟨i2, e2⟩ : ∃ i : Nat, ((p : Int) * 7 + 3) % (m : Int) = i := ⟨(((p : Int) * 7 + 3) % (m : Int)).toNat, by omega⟩
      obtain ⟨d, e3⟩ : ∃ i : Nat, (p : Int) / (m : Int) = i := ⟨((p : Int) / (m : Int)).toNat, by omega⟩
      rw [e1] at p1
      rw [e2] at p2
      rw [e3] at p3
      obtain ⟨b', off', hA, _, _, k1⟩ := hcell i1 (by omega)
      cases hA
      obtain ⟨b', off', hA, _, _, k2⟩ := hcell i2 (by omega)
      cases hA
      clear hcell
      have hx := hz.at_ i1
      have hy := hz.at_ i2
      obtain ⟨x, hxe⟩ : ∃ x, zs[i1]?.getD 0 = x := ⟨_, rfl⟩
      obtain ⟨y, hye⟩ : ∃ x, zs[i2]?.getD 0 = x := ⟨_, rfl⟩
      rw [hxe] at k1 hx
      rw [hye] at k2 hy
      clear hxe hye
      have hpi : (p : Int) ≤ 1000000000 := by omega
      go_enter Try.func59, Try.ntmps59
      go_wp2
      go_quiet (fail)
      go_wp2
      go_ret
      have hq := tmod_bd (xor_nn (x := x * 131 + y * 1117 + (p : Int) * 29 + (d : Int) * 53) (y := (x * 131 + y * 1117 + (p : Int) * 29 + (d : Int) * 53) / 64) (by omega) (by omega) (by omega) (by omega)) h1
      exact Picked.mk hm hmc hc hp hz hs hb _ hq.1 hq.2

/-- What odd says: some Bool; at most one pick. -/
def Odd (w : World) (g P : Nat) (e : Ending) (w' : World) : Prop := ∃ b : Bool, e = .returned (.bool b) ∧ RdC w w' g P ∧ w.grownBy w' (some g)
theorem odd_any (g P : Nat) (n : Int) (w : World) (h : Rd w g P) (hP : P ≤ 1000000000) (h1 : 0 ≤ n) (h2 : n ≤ 1000000000) :
    Calls Try.prog 60 #[.pointer (some ⟨g, 0, none⟩), .int .i64 n] w (Odd w g (P + 1)) := by
  by_cases hn : 0 < n
  · go_enter Try.func60, Try.ntmps60
    go_wp2_with (go_at_call 59; refine (pick_any _ _ _ _ h hP (by omega) h2).mono ?_; rintro e w1 ⟨v, hv0, hv1, rfl, hr, hg⟩)
    go_ret
    exact ⟨_, rfl, hr, hg⟩
  · obtain rfl : n = 0 := by omega
    go_enter Try.func60, Try.ntmps60
    go_wp2
    go_ret
    exact ⟨_, rfl, ⟨h.more (by omega), rfl⟩, World.grownBy.refl _ _⟩
end Go.Proofs.Ytgdcfhifiincaaa
