/-
  DrawGivenTokens: a bucket, times, and what is asked for.
-/
import Derived.Test.YtjiebaidjflkjaaDrawBucket
import Derived.Test.YtjiebaidjflkjaaTPick
namespace Go.Proofs.Ytjiebaidjflkjaa
open Go.RowKit
set_option linter.unusedVariables false

/-- Two rows of the function's own, in blocks of their own. -/
structure Rows2 (w : World) (B : Nat) (e : TypeId) (v1 : Value) (n1 : Nat) (xs1 : List Value) (v2 : Value) (n2 : Nat) (xs2 : List Value) : Prop where
  o1 : w.ownsRow B e 1 v1 n1 xs1
  o2 : w.ownsRow B e 1 v2 n2 xs2
  ap : ∀ k, v1.ownBlock = some k → v2.ownBlock ≠ some k
section
variable {w w' : World} {B : Nat} {e : TypeId} {v1 v2 v' : Value} {n1 n2 n' : Nat} {xs1 xs2 xs' : List Value}
theorem Rows2.symm (h : Rows2 w B e v1 n1 xs1 v2 n2 xs2) : Rows2 w B e v2 n2 xs2 v1 n1 xs1 := ⟨h.o2, h.o1, fun k h1 h2 => h.ap k h2 h1⟩
theorem Rows2.picked {g : Nat} (h : Rows2 w B e v1 n1 xs1 v2 n2 xs2) (hg : w.grownBy w' (some g)) (hB : g < B) : Rows2 w' B e v1 n1 xs1 v2 n2 xs2 := ⟨own_picked h.o1 hg hB, own_picked h.o2 hg hB, h.ap⟩
theorem Rows2.alloc (h : Rows2 w B e v1 n1 xs1 v2 n2 xs2) (o : Obj) : Rows2 (w.alloc o) B e v1 n1 xs1 v2 n2 xs2 := ⟨h.o1.alloc o, h.o2.alloc o, h.ap⟩
theorem Rows2.app1 (h : Rows2 w B e v1 n1 xs1 v2 n2 xs2) (ho : w'.ownsRow B e 1 v' n' xs') (hg : w.grownBy w' v1.ownBlock) (hat : v'.ownBlock = v1.ownBlock ∨ v'.ownBlock = some w.heap.size) : Rows2 w' B e v' n' xs' v2 n2 xs2 := by
  refine ⟨ho, h.o2.kept hg ?_, ?_⟩
  · cases h2 : v2.ownBlock with
    | none => exact .inl rfl
    | some k => right; intro e1; exact h.ap k e1.symm h2
  · intro k hk h2
    rcases hat with hat | hat
    · exact h.ap k (by rw [← hat]; exact hk) h2
    · rw [hat] at hk
      cases hk
      have := (h.o2.lt _ h2).2
      omega
theorem Rows2.app2 (h : Rows2 w B e v1 n1 xs1 v2 n2 xs2) (ho : w'.ownsRow B e 1 v' n' xs') (hg : w.grownBy w' v2.ownBlock) (hat : v'.ownBlock = v2.ownBlock ∨ v'.ownBlock = some w.heap.size) : Rows2 w' B e v1 n1 xs1 v' n' xs' := (h.symm.app1 ho hg hat).symm
end

/-- A cell of a literal of numbers, all in range. -/
theorem Blk.pickAt' {w : World} {g : Nat} {t : TypeId} {k : IntKind} {xs : List Int} {lo hi : Int} (h : Blk w g t (xs.map (Value.int k)).toArray) (hx : ∀ x ∈ xs, lo ≤ x ∧ x ≤ hi) {z : Int} (h0 : 0 ≤ z) (h1 : z < xs.length) :
    ∃ z' : Int, w.cell? ⟨g, z.toNat, none⟩ = some (.int k z') ∧ lo ≤ z' ∧ z' ≤ hi := by
  have hl : z.toNat < xs.length := by omega
  refine ⟨xs[z.toNat], ?_, hx _ (List.getElem_mem hl)⟩
  rw [h.cell]
  simp [List.getElem?_eq_getElem hl]
theorem own_four {w : World} {B k : Nat} {e : TypeId} {n : Nat} {v : Value} {xs : List Value} (h : w.ownsRow B e 1 v n xs) (hk : k < B) {x0 x1 x2 x3 : Value} :
    ((((w.setCell ⟨k, 0, none⟩ x0).setCell ⟨k, 1, none⟩ x1).setCell ⟨k, 2, none⟩ x2).setCell ⟨k, 3, none⟩ x3).ownsRow B e 1 v n xs := by
  have one : ∀ (w : World) (i : Nat) (x : Value), w.ownsRow B e 1 v n xs → (w.setCell ⟨k, i, none⟩ x).ownsRow B e 1 v n xs := by
    intro w i x h
    refine ⟨h.1, ?_⟩
    rcases h.2 with h | ⟨g, cap, cur, e1, e2, e3, e4⟩
    · exact .inl h
    · exact .inr ⟨g, cap, cur, e1, e2, (Below.heap_setCell w ⟨k, i, none⟩ x g (by show g ≠ k; omega)).trans e3, e4⟩
  exact one _ _ _ (one _ _ _ (one _ _ _ (one _ _ _ h)))

/-- A bucket, times and numbers. -/
def DrawnGiven (W : World) (e : Ending) (w' : World) : Prop :=
  ∃ (r m h l : Int) (A : Option Addr) (n c : Nat) (ts : List Int) (A' : Option Addr) (n' c' : Nat) (qs : List Int), e = .returned (.tuple #[.agg #[.int .i64 r, .int .i64 m, .int .i64 h, .int .i64 l], .slice A n c, .slice A' n' c']) ∧
    0 ≤ r ∧ r ≤ 1001 ∧ 1 ≤ m ∧ m ≤ 10001 ∧ -1 ≤ h ∧ h ≤ 257 ∧ -1 ≤ l ∧ l ≤ 100001 ∧ n ≤ 20 ∧ n ≤ c ∧ c ≤ maxLen ∧ n' ≤ 20 ∧ n' ≤ c' ∧ c' ≤ maxLen ∧ (∀ z ∈ ts, -1 ≤ z ∧ z ≤ 200000) ∧
    w'.ownsRow W.heap.size 3 1 (.slice A n c) n (ts.map (Value.int .i64)) ∧ w'.ownsRow W.heap.size 3 1 (.slice A' n' c') n' (qs.map (Value.int .i64)) ∧ Below W.heap.size W w'

set_option maxHeartbeats 3200000 in
theorem drawGivenTokens_any (A : Option Addr) (n c : Nat) (zs : List Int) (w : World) (hs : Sl w 0 w.heap.size 1 A n (zs.map (Value.int .u8))) (hnc : n ≤ c) (hc : c ≤ 9223372036854775807) (hz : AllByte zs) :
    Calls Try.prog 35 #[.slice A n c] w (DrawnGiven w) := by
  obtain ⟨i0, ti, tz, ts, tb⟩ := info_parts infoI
  have b0 := (Below.refl w.heap.size w).alloc (Nat.le_refl _) (.cells #[.int .i64 0, .int .i64 0, .int .i64 0, .int .i64 0] 38)
  have K0 := Blk.new w 38 #[.int .i64 0, .int .i64 0, .int .i64 0, .int .i64 0]
  go_enter Try.func35, Try.ntmps35
  go_wp2_with fail
  refine (open_any _ _ _ zs _ ((hs.alloc (Nat.le_refl _) _).more (Nat.le_refl _) (by simp)) hnc hc hz).mono ?_
  rintro e w1 ⟨g, hg, rfl, hr, b1⟩
  have K1 := K0.below b1 (by simp)
  have b01 := b0.trans (b1.mono (by simp))
  simp only [World.size_alloc] at hg
  clear K0 b0 b1
  go_wp2_with fail
  refine (bucket_any _ _ _ _ hr (by omega) (by omega) (by omega)).mono ?_
  rintro e w2 ⟨r, m, h, l, rfl, q1, q2, q3, q4, q5, q6, q7, q8, D⟩
  have K2 := K1.grown D.gr (by simp; omega)
  have b2 := D.out b01 (by omega)
  have hlt := D.lt
  clear K1 b01 hr
  -- the bucket's block, and the two empty rows behind it
  have Dq := D.alloc (.cells #[.int .i64 r, .int .i64 m, .int .i64 h, .int .i64 l] 38)
  have Q3 := Blk.new w2 38 #[.int .i64 r, .int .i64 m, .int .i64 h, .int .i64 l]
  have K3 := K2.alloc (.cells #[.int .i64 r, .int .i64 m, .int .i64 h, .int .i64 l] 38)
  have b3 := b2.alloc b2.size (.cells #[.int .i64 r, .int .i64 m, .int .i64 h, .int .i64 l] 38)
  have hK := K2.lt
  have hgr := D.rd.lt
  go_wp2_with fail
  obtain ⟨q, hq⟩ : ∃ q, w2.heap.size = q := ⟨_, rfl⟩
  obtain ⟨w3, hw3⟩ : ∃ w3, w3 = w2.alloc (.cells #[.int .i64 r, .int .i64 m, .int .i64 h, .int .i64 l] 38) := ⟨_, rfl⟩
  have hs3 : w3.heap.size = q + 1 := by rw [hw3]; simp [hq]
  rw [← hw3] at Dq Q3 K3 b3 ⊢
  rw [hq] at Q3 hK hgr ⊢
  rw [show q + 1 = w3.heap.size from hs3.symm]
  clear hw3 hq D K2 b2
  have D3 : Dw w3 g 7 w3 := Dw.start (Dq.rd.more (by omega))
  have hq3 : q < w3.heap.size := by omega
  clear hs3 Dq
  have R3 : Rows2 ((w3.alloc (.cells #[] 3)).alloc (.cells #[] 3)) w3.heap.size 3 (.slice (some ⟨w3.heap.size, 0, none⟩) 0 0) 0 [] (.slice (some ⟨w3.heap.size + 1, 0, none⟩) 0 0) 0 [] := by
    have o1 := (World.ownsRow_lit (base := w3.heap.size) (e := 3) (size := 1) w3 #[] 0 (Nat.le_refl _) (by unfold maxLen; omega) (by simp)).alloc (.cells #[] 3)
    have o2 := World.ownsRow_lit (base := w3.heap.size) (e := 3) (size := 1) (w3.alloc (.cells #[] 3)) #[] 0 (by simp) (by unfold maxLen; omega) (by simp)
    simp only [World.size_alloc] at o2
    exact ⟨o1, o2, fun k h1 h2 => by simp [Value.ownBlock] at h1 h2; omega⟩
  have D4 := (D3.alloc (.cells #[] 3)).alloc (.cells #[] 3)
  refine (pick_any _ _ _ _ D4.rd (by omega) (by omega) (by omega)).mono ?_
  rintro e w4 ⟨k0, hk0, hk1, rfl, hr4, hg4⟩
  have D5 := D4.picked hr4 hg4
  have R5 := R3.picked hg4 D3.lt
  clear R3 D4 hr4 hg4
  go_wp2_with fail
  go_loopw [7, 8, 9, 10] (fun tv av nw i wr => ∃ (k p m : Nat) (now : Int) (xs ys : List Int), i = .int .i64 k ∧ k ≤ 7 ∧ m + k ≤ 7 ∧ p + 2 * k ≤ 30 ∧ nw = .int .i64 now ∧ -1 ≤ now ∧ now + 20 * k ≤ 100200 ∧ (∀ z ∈ xs, (-1 : Int) ≤ z ∧ z ≤ 200000) ∧ Rows2 wr w3.heap.size 3 tv m (xs.map (Value.int .i64)) av m (ys.map (Value.int .i64)) ∧ Dw w3 g p wr) (fun _ _ _ i _ => (intOf i).toNat)
  case atStart => exact ⟨k0.toNat, _, 0, l, [], [], by rw [Int.toNat_of_nonneg hk0], by omega, by omega, by omega, rfl, q7, by omega, by simp, R5, D5⟩
  case round =>
    obtain ⟨k, p, m', now, xs, ys, rfl, hk, hm, hp, rfl, n0, n1, hx, R, D6⟩ := hrel
    clear R5 D5
    by_cases hlt : 0 < k
    · go_wp2_with fail
      refine (pick_any _ _ _ _ D6.rd (by omega) (by omega) (by omega)).mono ?_
      rintro e w5 ⟨y, hy0, hy1, rfl, hr5, hg5⟩
      have D7 := D6.picked hr5 hg5
      have R7 := R.picked hg5 D3.lt
      clear D6 R hr5 hg5
      go_wp2_with (at_builtin; refine wpList_append_sl _ rfl _ _ 22 rfl w3.heap.size 3 i0 _ 1 8 Try.underlying22 ti tz ts tb rfl (by decide) _ m' _ (by rfl) (R7.o1.alloc _) _ _ (some ⟨w5.heap.size, 0, none⟩) 1 1 [.int .i64 (now + y)] rfl (Sl.new #[.int .i64 (now + y)] 3 1 1 rfl) (one_int _ _) (by unfold maxLen; omega) (by omega) (by simp; have := D7.size_; omega) ?_; intro v1 w6 own6 g6 at6)
      have D8 := (D7.alloc (.cells #[.int .i64 (now + y)] 3)).append (R7.o1.alloc _) g6
      have R8 := (R7.alloc (.cells #[.int .i64 (now + y)] 3)).app1 own6 g6 at6
      rw [show (xs.map (Value.int .i64)) ++ [.int .i64 (now + y)] = (xs ++ [now + y]).map (Value.int .i64) from by simp] at R8
      have hx8 := ints_snoc hx (z := now + y) (by omega)
      clear own6 g6 at6 R7 D7 hx
      refine (pick_any _ _ _ _ D8.rd (by omega) (by omega) (by omega)).mono ?_
      rintro e w7 ⟨a, ha0, ha1, rfl, hr7, hg7⟩
      have D9 := D8.picked hr7 hg7
      have R9 := R8.picked hg7 D3.lt
      clear D8 R8 hr7 hg7
      go_wp2_with (at_builtin; refine wpList_append_sl _ rfl _ _ 22 rfl w3.heap.size 3 i0 _ 1 8 Try.underlying22 ti tz ts tb rfl (by decide) _ m' _ (by rfl) (R9.o2.alloc _) _ _ (some ⟨w7.heap.size, 0, none⟩) 1 1 [.int .i64 a] rfl (Sl.new #[.int .i64 a] 3 1 1 rfl) (one_int _ _) (by unfold maxLen; omega) (by omega) (by simp; have := D9.size_; omega) ?_; intro v2 w8 own8 g8 at8)
      have D10 := (D9.alloc (.cells #[.int .i64 a] 3)).append (R9.o2.alloc _) g8
      have R10 := (R9.alloc (.cells #[.int .i64 a] 3)).app2 own8 g8 at8
      rw [show (ys.map (Value.int .i64)) ++ [.int .i64 a] = (ys ++ [a]).map (Value.int .i64) from by simp] at R10
      clear own8 g8 at8 R9 D9
      go_roundw
      case rel => exact ⟨k - 1, p + 1 + 1, m' + 1, now + y, _, _, by (congr 1; omega), by omega, by omega, by omega, rfl, by omega, by omega, hx8, R10, D10⟩
      case measure => simp [intOf]; omega
    · obtain rfl : k = 0 := by omega
      clear hlt
      go_wp2_with fail
      refine (odd_any _ _ _ _ D6.rd (by omega) (by omega) (by omega)).mono ?_
      rintro e w5 ⟨b, rfl, hr5, hg5⟩
      have D7 := D6.picked hr5 hg5
      have R7 := R.picked hg5 D3.lt
      clear D6 R hr5 hg5
      obtain ⟨P1, hP1⟩ : ∃ q, p + 1 = q := ⟨_, rfl⟩
      have hP1' : P1 ≤ 31 := by omega
      rw [hP1] at D7
      clear hP1
      rcases b
      rotate_left
      go_wp2_with fail
      have D8 := D7.alloc (.cells #[.int .i64 0, .int .i64 100001] 3)
      have R8 := R7.alloc (.cells #[.int .i64 0, .int .i64 100001] 3)
      refine (pick_any _ _ _ _ D8.rd (by omega) (by omega) (by omega)).mono ?_
      rintro e w6 ⟨z, hz0, hz1, rfl, hr6, hg6⟩
      have bk := (Blk.new w5 3 #[.int .i64 0, .int .i64 100001]).grown hg6 (by have := D7.rd.lt; simp; omega)
      have D9 := D8.picked hr6 hg6
      have R9 := R8.picked hg6 D3.lt
      obtain ⟨z', hz', zz0, zz1⟩ := Blk.pickAt' (xs := [0, 100001]) (lo := 0) (hi := 100001) bk (by intro x hx; simp at hx; omega) hz0 (by simp; omega)
      replace hz1 : z < 2 := by omega
      clear D7 R7 D8 R8 hr6 hg6 bk
      go_wp2_with (at_builtin; first
        | (refine wpList_append_sl _ rfl _ _ 22 rfl w3.heap.size 3 i0 _ 1 8 Try.underlying22 ti tz ts tb rfl (by decide) _ m' _ (by rfl) (R9.o1.alloc _) _ _ (some ⟨w6.heap.size, 0, none⟩) 1 1 [.int .i64 z'] rfl (Sl.new #[.int .i64 z'] 3 1 1 rfl) (one_int _ _) (by unfold maxLen; omega) (by omega) (by simp; have := D9.size_; omega) ?_; intro v1 w7 own7 g7 at7; have D10 := (D9.alloc (.cells #[.int .i64 z'] 3)).append (R9.o1.alloc _) g7; have R10 := (R9.alloc (.cells #[.int .i64 z'] 3)).app1 own7 g7 at7)
        | (refine wpList_append_sl _ rfl _ _ 22 rfl w3.heap.size 3 i0 _ 1 8 Try.underlying22 ti tz ts tb rfl (by decide) _ m' _ (by rfl) (R10.o2.alloc _) _ _ (some ⟨w7.heap.size, 0, none⟩) 1 1 [.int .i64 1] rfl (Sl.new #[.int .i64 1] 3 1 1 rfl) (one_int _ _) (by unfold maxLen; omega) (by omega) (by simp; have := D10.size_; omega) ?_; intro v2 w8 own8 g8 at8; have D7 := (D10.alloc (.cells #[.int .i64 1] 3)).append (R10.o2.alloc _) g8; have R7 := (R10.alloc (.cells #[.int .i64 1] 3)).app2 own8 g8 at8))
      rw [show (xs.map (Value.int .i64)) ++ [.int .i64 z'] = (xs ++ [z']).map (Value.int .i64) from by simp, show (ys.map (Value.int .i64)) ++ [.int .i64 1] = (ys ++ [1]).map (Value.int .i64) from by simp] at R7
      have hx1 := ints_snoc hx (z := z') (by omega)
      clear own7 g7 at7 own8 g8 at8 D9 R9 D10 R10 hx hz'
      obtain ⟨m1, hm1⟩ : ∃ q, m' + 1 = q := ⟨_, rfl⟩
      rw [hm1] at R7
      have hm1' : m1 ≤ 8 := by omega
      obtain ⟨xs1, hxs⟩ : ∃ q, xs ++ [z'] = q := ⟨_, rfl⟩
      obtain ⟨ys0, hys⟩ : ∃ q, ys ++ [1] = q := ⟨_, rfl⟩
      rw [hxs] at R7 hx1
      rw [hys] at R7
      clear hm1 hxs hys
      obtain ⟨P2, hP2⟩ : ∃ q, P1 + 1 = q := ⟨_, rfl⟩
      have hP2' : P2 ≤ 32 := by omega
      rw [hP2] at D7
      clear hP2
      rotate_left
      go_wp2_with fail
      obtain ⟨m1, rfl⟩ : ∃ q, q = m' := ⟨_, rfl⟩
      obtain ⟨xs1, rfl⟩ : ∃ q, q = xs := ⟨_, rfl⟩
      obtain ⟨ys0, rfl⟩ : ∃ q, q = ys := ⟨_, rfl⟩
      obtain ⟨P2, rfl⟩ : ∃ q, q = P1 := ⟨_, rfl⟩
      have hm1' : m1 ≤ 8 := by omega
      have hP2' : P2 ≤ 32 := by omega
      have hx1 := hx
      clear hx
      all_goals
        refine (odd_any _ _ _ _ D7.rd (by omega) (by omega) (by omega)).mono ?_
        rintro e wa ⟨b, rfl, hra, hga⟩
        have D8 := D7.picked hra hga
        have R8 := R7.picked hga D3.lt
        clear D7 R7 hra hga
        rcases b
        · obtain ⟨m2, rfl⟩ : ∃ q, q = m1 := ⟨_, rfl⟩
          obtain ⟨ys1, rfl⟩ : ∃ q, q = ys0 := ⟨_, rfl⟩
          have R9 := R8
          have D9 := D8
          have Ke := K3.grown D9.gr (fun e => by cases e; omega)
          have Qe := Q3.grown D9.gr (fun e => by cases e; omega)
          have b9 := D9.out b3 (by omega)
          obtain ⟨c0, c1, c2, c3, _⟩ := Qe.four
          obtain ⟨d0, d1, d2, d3, df⟩ := Ke.four
          have hne : ¬ w.heap.size = q := by omega
          obtain ⟨A1, a1, rfl, e1, e2⟩ := own_is_slice R9.o1
          obtain ⟨A2, a2, rfl, e3, e4⟩ := own_is_slice R9.o2
          go_wp2
          have KE := Ke.setFour (.int .i64 r) (.int .i64 m) (.int .i64 h) (.int .i64 l)
          have BE := (((b9.setCell (p := ⟨w.heap.size, 0, none⟩) (Nat.le_refl _) (.int .i64 r)).setCell (p := ⟨w.heap.size, 1, none⟩) (Nat.le_refl _) (.int .i64 m)).setCell (p := ⟨w.heap.size, 2, none⟩) (Nat.le_refl _) (.int .i64 h)).setCell (p := ⟨w.heap.size, 3, none⟩) (Nat.le_refl _) (.int .i64 l)
          have o1 := own_more (own_four R9.o1 (x0 := .int .i64 r) (x1 := .int .i64 m) (x2 := .int .i64 h) (x3 := .int .i64 l) (k := w.heap.size) (by omega)) (B' := w.heap.size) (by omega)
          have o2 := own_more (own_four R9.o2 (x0 := .int .i64 r) (x1 := .int .i64 m) (x2 := .int .i64 h) (x3 := .int .i64 l) (k := w.heap.size) (by omega)) (B' := w.heap.size) (by omega)
          obtain ⟨x0, x1, x2, x3, _⟩ := KE.four
          clear c0 c1 c2 c3 d0 d1 d2 d3 df KE
          refine bodyPost_ret (v := .tuple #[.agg #[.int .i64 r, .int .i64 m, .int .i64 h, .int .i64 l], .slice A1 m2 a1, .slice A2 m2 a2]) ?_ rfl ⟨r, m, h, l, A1, m2, a1, xs1, A2, m2, a2, ys1, rfl, q1, q2, q3, q4, q5, q6, q7, q8, by omega, e1, e2, by omega, e3, e4, hx1, o1, o2, BE⟩
          simp [results, Try.results35, go_sem, x0, x1, x2, x3]
        · go_wp2_with (at_builtin; refine wpList_append_sl _ rfl _ _ 22 rfl w3.heap.size 3 i0 _ 1 8 Try.underlying22 ti tz ts tb rfl (by decide) _ m1 _ (by rfl) (R8.o2.alloc _) _ _ (some ⟨wa.heap.size, 0, none⟩) 1 1 [.int .i64 1] rfl (Sl.new #[.int .i64 1] 3 1 1 rfl) (one_int _ _) (by unfold maxLen; omega) (by omega) (by simp; have := D8.size_; omega) ?_; intro v3 wb ownb gb atb; have D9 := (D8.alloc (.cells #[.int .i64 1] 3)).append (R8.o2.alloc _) gb; have R9 := (R8.alloc (.cells #[.int .i64 1] 3)).app2 ownb gb atb; have Ke := K3.grown D9.gr (fun e => absurd (Option.some.inj e) (by omega)); have Qe := Q3.grown D9.gr (fun e => absurd (Option.some.inj e) (by omega)); have b9 := D9.out b3 (by omega); obtain ⟨c0, c1, c2, c3, _⟩ := Qe.four; obtain ⟨d0, d1, d2, d3, df⟩ := Ke.four; have hne : ¬ w.heap.size = q := (by omega); obtain ⟨A1, a1, rfl, e1, e2⟩ := own_is_slice R9.o1; obtain ⟨A2, a2, rfl, e3, e4⟩ := own_is_slice R9.o2)
          rw [show (ys0.map (Value.int .i64)) ++ [.int .i64 1] = (ys0 ++ [1]).map (Value.int .i64) from by simp] at R9
          have KE := Ke.setFour (.int .i64 r) (.int .i64 m) (.int .i64 h) (.int .i64 l)
          have BE := (((b9.setCell (p := ⟨w.heap.size, 0, none⟩) (Nat.le_refl _) (.int .i64 r)).setCell (p := ⟨w.heap.size, 1, none⟩) (Nat.le_refl _) (.int .i64 m)).setCell (p := ⟨w.heap.size, 2, none⟩) (Nat.le_refl _) (.int .i64 h)).setCell (p := ⟨w.heap.size, 3, none⟩) (Nat.le_refl _) (.int .i64 l)
          have o1 := own_more (own_four R9.o1 (x0 := .int .i64 r) (x1 := .int .i64 m) (x2 := .int .i64 h) (x3 := .int .i64 l) (k := w.heap.size) (by omega)) (B' := w.heap.size) (by omega)
          have o2 := own_more (own_four R9.o2 (x0 := .int .i64 r) (x1 := .int .i64 m) (x2 := .int .i64 h) (x3 := .int .i64 l) (k := w.heap.size) (by omega)) (B' := w.heap.size) (by omega)
          obtain ⟨x0, x1, x2, x3, _⟩ := KE.four
          clear c0 c1 c2 c3 d0 d1 d2 d3 df KE
          refine bodyPost_ret (v := .tuple #[.agg #[.int .i64 r, .int .i64 m, .int .i64 h, .int .i64 l], .slice A1 m1 a1, .slice A2 (m1 + 1) a2]) ?_ rfl ⟨r, m, h, l, A1, m1, a1, xs1, A2, m1 + 1, a2, ys0 ++ [1], rfl, q1, q2, q3, q4, q5, q6, q7, q8, by omega, e1, e2, by omega, e3, e4, hx1, o1, o2, BE⟩
          simp [results, Try.results35, go_sem, x0, x1, x2, x3]
end Go.Proofs.Ytjiebaidjflkjaa
