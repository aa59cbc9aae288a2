/-
  l20Key, l20Keys: keys drawn by a reader.
-/
import Derived.Test.YtfobcggcilbgbaaDrawPool
namespace Go.Proofs.Ytfobcggcilbgbaa
open Go.RowKit
set_option linter.unusedVariables false

set_option maxRecDepth 10000 in
set_option maxHeartbeats 1600000 in
theorem key_any (g P : Nat) (n : Int) (w : World) (h : Rd w g P) (hP : P ≤ 100001000) (hn : 0 ≤ n) (hn' : n ≤ 1000) :
    Calls Try.prog 56 #[.pointer (some ⟨g, 0, none⟩), .int .i64 n] w (Picked w g (P + 10) (-1) 1000003) := by
  have D := Dw.start h
  have hlt := D.lt
  go_enter Try.func56, Try.ntmps56
  go_wp2_with fail
  refine (odd_any _ _ _ _ D.rd (by omega) (by omega) (by omega)).mono ?_
  rintro e w1 ⟨b, rfl, hr1, hg1⟩
  have D1 := D.picked hr1 hg1
  clear hr1 hg1 D
  rcases b
  · go_wp2_with fail
    refine (pick_any _ _ _ _ D1.rd (by omega) (by omega) (by omega)).mono ?_
    rintro e w2 ⟨y, y0, y1, rfl, hr2, hg2⟩
    have D2 := D1.picked hr2 hg2
    clear hr2 hg2 D1
    go_wp2_with fail
    refine (pick_any _ _ _ _ D2.rd (by omega) (by omega) (by omega)).mono ?_
    rintro e w3 ⟨z, z0, z1, rfl, hr3, hg3⟩
    have D3 := D2.picked hr3 hg3
    have hz3 := D3.size_
    clear hr3 hg3 D2
    go_wp2_with fail
    have D4 := D3.alloc (.cells #[.int .i64 (y * 3900), .int .i64 z, .int .i64 1000002] 3)
    have K4 := Blk.new w3 3 #[.int .i64 (y * 3900), .int .i64 z, .int .i64 1000002]
    have D5 := D4.alloc (.cells #[.int .i64 0, .int .i64 0, .int .i64 0, .int .i64 1, .int .i64 2] 3)
    have K4' := K4.alloc (.cells #[.int .i64 0, .int .i64 0, .int .i64 0, .int .i64 1, .int .i64 2] 3)
    have K5 := Blk.new (w3.alloc (.cells #[.int .i64 (y * 3900), .int .i64 z, .int .i64 1000002] 3)) 3 #[.int .i64 0, .int .i64 0, .int .i64 0, .int .i64 1, .int .i64 2]
    refine (pick_any _ _ _ _ D5.rd (by omega) (by omega) (by omega)).mono ?_
    rintro e w6 ⟨u, u0, u1, rfl, hr6, hg6⟩
    have D6 := D5.picked hr6 hg6
    have K6 := K5.picked hg6 (by first | omega | (simp; omega))
    have K6' := K4'.picked hg6 (by first | omega | (simp; omega))
    obtain ⟨x, hx, x0, x1⟩ := Blk.pickAt' (xs := [0, 0, 0, 1, 2]) (lo := 0) (hi := 2) K6 (by intro x hx; simp at hx; omega) u0 (by simp; omega)
    obtain ⟨v, hv, v0, v1⟩ := Blk.pickAt' (xs := [y * 3900, z, 1000002]) (lo := -1) (hi := 1000003) K6' (by intro x hx; simp at hx; omega) x0 (by simp; omega)
    replace u1 : u < 5 := by omega
    replace x1 : x < 3 := by omega
    try simp only [World.size_alloc] at hx
    try simp only [World.size_alloc] at hv
    clear D3 D4 D5 K4 K4' K5 K6 K6' hr6 hg6
    go_wp2
    go_ret
    exact ⟨v, v0, v1, rfl, ⟨D6.rd.more (by omega), D6.c0⟩, D6.gr⟩
  · go_wp2_with fail
    have hz1 := D1.size_
    have D5 := D1.alloc (.cells #[.int .i64 (-1), .int .i64 1000003] 3)
    have K5 := Blk.new w1 3 #[.int .i64 (-1), .int .i64 1000003]
    refine (pick_any _ _ _ _ D5.rd (by omega) (by omega) (by omega)).mono ?_
    rintro e w6 ⟨u, u0, u1, rfl, hr6, hg6⟩
    have D6 := D5.picked hr6 hg6
    have K6 := K5.picked hg6 (by omega)
    obtain ⟨v, hv, v0, v1⟩ := Blk.pickAt' (xs := [-1, 1000003]) (lo := -1) (hi := 1000003) K6 (by intro x hx; simp at hx; omega) u0 (by simp; omega)
    replace u1 : u < 2 := by omega
    clear D1 D5 K5 K6 hr6 hg6
    go_wp2
    go_ret
    exact ⟨v, v0, v1, rfl, ⟨D6.rd.more (by omega), D6.c0⟩, D6.gr⟩

set_option maxRecDepth 10000 in
set_option maxHeartbeats 1600000 in
theorem keys_any (g P : Nat) (n : Int) (w : World) (h : Rd w g P) (hP : P ≤ 100000000) (hn : 0 ≤ n) (hn' : n ≤ 1000) :
    Calls Try.prog 63 #[.pointer (some ⟨g, 0, none⟩), .int .i64 n] w (DrewInts w g (P + 80) 3 .i64 7 (-1) 1000003) := by
  have D := Dw.start h
  have hlt := D.lt
  obtain ⟨i0, ti, tz, ts, tb⟩ := info_parts infoI
  go_enter Try.func63, Try.ntmps63
  go_wp2_with fail
  have own0 := World.ownsRow_lit (base := w.heap.size) (e := 3) (size := 1) w #[] 0 (Nat.le_refl _) (by unfold maxLen; omega) (by simp)
  have D0 := D.alloc (.cells #[] 3)
  refine (pick_any _ _ _ _ D0.rd (by omega) (by omega) (by omega)).mono ?_
  rintro e w1 ⟨k0, hk0, hk1, rfl, hr1, hg1⟩
  have D1 := D0.picked hr1 hg1
  have R1 := own_picked own0 hg1 hlt
  clear D0 own0 hr1 hg1
  go_wp2_with fail
  go_loopw [5, 6] (fun tv i wr => ∃ (k m p : Nat) (ss : List Int), i = .int .i64 k ∧ m + k ≤ 7 ∧ p + 10 * k ≤ P + 71 ∧ (∀ z ∈ ss, -1 ≤ z ∧ z ≤ 1000003) ∧ wr.ownsRow w.heap.size 3 1 tv m (ss.map (Value.int .i64)) ∧ Dw w g p wr) (fun _ i _ => (intOf i).toNat)
  case atStart => exact ⟨k0.toNat, 0, P + 1, [], by rw [Int.toNat_of_nonneg hk0], by omega, by omega, by simp, R1, D1⟩
  case round =>
    obtain ⟨k, m, p, ss, rfl, hk, hp, hss, R, D4⟩ := hrel
    clear R1 D1
    by_cases hlk : 0 < k
    · have hki : (0 : Int) < (k : Int) := by omega
      go_wp2_with fail
      refine (key_any _ _ _ _ D4.rd (by omega) (by omega) (by omega)).mono ?_
      rintro e w5 ⟨y, hy0, hy1, rfl, hr5, hg5⟩
      have D5 := D4.picked hr5 hg5
      have R5 := own_picked R hg5 hlt
      have hz5 := D5.size_
      clear D4 R hr5 hg5
      go_wp2_with (at_builtin; refine wpList_append_sl _ rfl _ _ 40 rfl w.heap.size 3 i0 _ 1 8 Try.underlying40 ti tz ts tb rfl (by decide) _ m _ (by rfl) (R5.alloc _) _ _ (some ⟨w5.heap.size, 0, none⟩) 1 1 [.int .i64 y] rfl (Sl.new #[.int .i64 y] 3 1 1 rfl) (one_int _ _) (by unfold maxLen; omega) (by omega) (by simp; omega) ?_; intro v1 w6 own6 g6 at6)
      have D8 := (D5.alloc (.cells #[.int .i64 y] 3)).append (R5.alloc _) g6
      rw [show (ss.map (Value.int .i64)) ++ [.int .i64 y] = (ss ++ [y]).map (Value.int .i64) from by simp] at own6
      clear g6 at6 R5 D5
      go_roundw
      case rel => exact ⟨k - 1, m + 1, _, ss ++ [y], by congr 1; omega, by omega, by omega, ints_snoc hss ⟨hy0, hy1⟩, own6, D8⟩
      case measure => simp [intOf]; omega
    · obtain rfl : k = 0 := by omega
      obtain ⟨A1, a1, rfl, e1, e2⟩ := own_is_slice R
      go_wp2
      go_ret
      exact ⟨A1, m, a1, ss, rfl, by omega, e1, e2, hss, R, D4.more (by omega)⟩

section
variable {Q : Exit → Act → World → Prop} {TS : Nat → Value → World → Prop} {X : Nat → World → Prop} {W : World} {g P0 B N : Nat} {F : Nat → Prop} {E : World → Prop} (C : Ctx Try.prog g P0 B N F E TS X) {i : Nat} (hXi : ∀ w, X i w) {d : Nat} {ty t t2 : TypeId} {pos : String} {af : Array Edge} {x y : Operand}
include C hXi
theorem t_key {ts : Array TypeId} {lo hi : Int} (hx : OT TS x (tLit (.pointer (some ⟨g, 0, none⟩)))) (hy : OT TS y (tInt .i64 lo hi)) (h1 : 0 ≤ lo) (h2 : hi ≤ 1000) (hd : TS d = tInt .i64 (-1) 1000003) :
    TStep Try.prog Q TS X (Gd W g P0 F E) N i ⟨some d, .call { callee := .value (.func 56), args := #[x, y], argTypes := ts }, ty, pos, af, none⟩ :=
  t_call C hXi Try.func56 (by kernel_rfl) (by kernel_rfl) hd fun b w ho q hq hr => by
    have e1 : b.eval x = .pointer (some ⟨g, 0, none⟩) := hx _ b w (by simp [Op.operands, Call.operands]) ho
    obtain ⟨n, n1, n2, e2⟩ := hy _ b w (by simp [Op.operands, Call.operands]) ho
    have e3 : (#[x, y] : Array Operand).map b.eval = #[.pointer (some ⟨g, 0, none⟩), .int .i64 n] := by simp [e1, e2]
    rw [e3]
    refine (key_any g q n w hr (by omega) (by omega) (by omega)).mono ?_
    rintro e w' ⟨v, v0, v1, rfl, hr', hg'⟩
    exact ⟨_, rfl, ⟨hr'.1.more (by omega), hr'.2⟩, hg', v, v0, v1, rfl⟩
theorem t_keys {ts : Array TypeId} {lo hi : Int} (hx : OT TS x (tLit (.pointer (some ⟨g, 0, none⟩)))) (hy : OT TS y (tInt .i64 lo hi)) (h1 : 0 ≤ lo) (h2 : hi ≤ 1000) (hWB : B ≤ W.heap.size) (hd : TS d = tList B 3 .i64 (-1) 1000003 7) :
    TStep Try.prog Q TS X (Gd W g P0 F E) N i ⟨some d, .call { callee := .value (.func 63), args := #[x, y], argTypes := ts }, ty, pos, af, none⟩ :=
  step_call C.gB C.gF C.room C.e C.st C.x hXi fun b w p hG ho => ⟨63, _, run_callf w b _ _ _ _ _ Try.func63 (by kernel_rfl) (by kernel_rfl), fun q hq hr => by
    have e1 : b.eval x = .pointer (some ⟨g, 0, none⟩) := hx _ b w (by simp [Op.operands, Call.operands]) ho
    obtain ⟨n, n1, n2, e2⟩ := hy _ b w (by simp [Op.operands, Call.operands]) ho
    have e3 : (#[x, y] : Array Operand).map b.eval = #[.pointer (some ⟨g, 0, none⟩), .int .i64 n] := by simp [e1, e2]
    rw [e3]
    refine (keys_any g q n w hr (by omega) (by omega) (by omega)).mono ?_
    rintro e w' ⟨A, m, c, zs, rfl, h1, h2, h3, h4, own, D⟩
    exact ⟨_, rfl, ⟨D.rd.more (by omega), D.c0⟩, D.gr, fun d' hd' => by cases hd'; rw [hd]; exact ⟨A, m, c, zs, rfl, h1, h2, h3, h4, own_more own (Nat.le_trans hWB hG.gr.size)⟩⟩⟩
end
end Go.Proofs.Ytfobcggcilbgbaa
