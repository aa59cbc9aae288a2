/-
  GivenTokens of both packages: one Lean function.
-/
import Derived.Test.YtjiebaidjflkjaaBucketC
import Derived.Test.YtjiebaidjflkjaaCopyInt
import Derived.Deep.DrawnRows
import Derived.Deep.RegionHeld3
namespace Go.Proofs.Ytjiebaidjflkjaa
open Go.RowKit
set_option linter.unusedVariables false
attribute [local go_sem ↓] Go.wp_at_zero Go.wp_at_succ

/-- What a bucket gives from now on: rate, most; have, last, the sum so far; the times and what is asked. -/
def givenFrom (r m : Int) : Int → Int → Int → List Int → List Int → Int
  | h, l, s, t :: ts, a :: qs =>
    if (takeS r m h l t a).2.2 then givenFrom r m (takeS r m h l t a).1.2.2.1 (takeS r m h l t a).1.2.2.2 (if (takeS r m h l t a).2.1 then s + a else s) ts qs else -1
  | _, _, s, _, _ => s
def givenOk (r m h l : Int) (ts qs : List Int) : Bool := bucketV r m h l && decide (ts.length = qs.length) && decide (ts.length ≤ 40)
def givenS (r m h l : Int) (ts qs : List Int) : Int := if givenOk r m h l ts qs then givenFrom r m h l 0 ts qs else -1
/-- What TakeTokens hands back: the same rate and most where it is possible, nothing where it is not. -/
theorem takeS_form {r m h l now many a b c d : Int} {u v : Bool} (hx : takeS r m h l now many = ((a, b, c, d), u, v)) :
    (v = true ∧ a = r ∧ b = m ∧ 1 ≤ r ∧ 0 ≤ many ∧ many ≤ 10000) ∨ (v = false ∧ a = 0 ∧ b = 0 ∧ c = 0 ∧ d = 0 ∧ u = false) := by
  by_cases hv : takeOk r m h l now many = true
  · left
    obtain ⟨h1, h2, h3⟩ := takeOk_iff.1 hv
    obtain ⟨g1, g2, g3, g4⟩ := bucketV_iff.1 h1
    by_cases hl : min m (h + r * (now - l)) < many
    · rw [takeS_few hv rfl hl] at hx
      simp only [Prod.mk.injEq] at hx
      obtain ⟨⟨rfl, rfl, _, _⟩, _, rfl⟩ := hx
      exact ⟨rfl, rfl, rfl, g1.1, h3.1, h3.2⟩
    · rw [takeS_given hv rfl hl] at hx
      simp only [Prod.mk.injEq] at hx
      obtain ⟨⟨rfl, rfl, _, _⟩, _, rfl⟩ := hx
      exact ⟨rfl, rfl, rfl, g1.1, h3.1, h3.2⟩
  · right
    rw [takeS_bad hv] at hx
    simp only [Prod.mk.injEq] at hx
    obtain ⟨⟨rfl, rfl, rfl, rfl⟩, rfl, rfl⟩ := hx
    exact ⟨rfl, rfl, rfl, rfl, rfl, rfl⟩
/-- The loop's relation: the bucket and the sum after the first k. -/
def GivRel (r m h0 l0 : Int) (ts qs : List Int) (k : Nat) (h l s : Int) : Prop := givenFrom r m h0 l0 0 ts qs = givenFrom r m h l s (ts.drop k) (qs.drop k) ∧ 0 ≤ s ∧ s ≤ 10000 * k
theorem GivRel.start (r m h l : Int) (ts qs : List Int) : GivRel r m h l ts qs 0 h l 0 := ⟨by simp, by omega, by omega⟩
theorem givenFrom_drop {r m h l s : Int} {ts qs : List Int} {k : Nat} (h1 : k < ts.length) (h2 : k < qs.length) {a b c d : Int} {u v : Bool} (hx : takeS r m h l (ts[k]?.getD 0) (qs[k]?.getD 0) = ((a, b, c, d), u, v)) :
    givenFrom r m h l s (ts.drop k) (qs.drop k) = if v then givenFrom r m c d (if u then s + qs[k]?.getD 0 else s) (ts.drop (k + 1)) (qs.drop (k + 1)) else -1 := by
  rw [List.getElem?_eq_getElem h1, List.getElem?_eq_getElem h2] at hx
  simp only [Option.getD_some] at hx
  rw [List.drop_eq_getElem_cons h1, List.drop_eq_getElem_cons h2, givenFrom, hx, List.getElem?_eq_getElem h2]
  rfl
theorem GivRel.next {r m h0 l0 h l s : Int} {ts qs : List Int} {k : Nat} (hr : GivRel r m h0 l0 ts qs k h l s) (h1 : k < ts.length) (h2 : k < qs.length) {a b c d : Int} {u : Bool} (hx : takeS r m h l (ts[k]?.getD 0) (qs[k]?.getD 0) = ((a, b, c, d), u, true)) :
    GivRel r m h0 l0 ts qs (k + 1) c d (if u then s + qs[k]?.getD 0 else s) := by
  have hf := takeS_form hx
  refine ⟨by rw [hr.1, givenFrom_drop h1 h2 hx]; rfl, ?_, ?_⟩
  · have := hr.2; split <;> simp at hf <;> omega
  · have := hr.2; split <;> simp at hf <;> omega
theorem GivRel.out {r m h0 l0 h l s : Int} {ts qs : List Int} {k : Nat} (hr : GivRel r m h0 l0 ts qs k h l s) (h1 : k < ts.length) (h2 : k < qs.length) {a b c d : Int} {u : Bool} (hx : takeS r m h l (ts[k]?.getD 0) (qs[k]?.getD 0) = ((a, b, c, d), u, false)) :
    givenFrom r m h0 l0 0 ts qs = -1 := by
  rw [hr.1, givenFrom_drop h1 h2 hx]; rfl
theorem GivRel.done {r m h0 l0 h l s : Int} {ts qs : List Int} (hr : GivRel r m h0 l0 ts qs ts.length h l s) : givenFrom r m h0 l0 0 ts qs = s := by
  rw [hr.1, List.drop_length]
  unfold givenFrom
  rfl
theorem below_set4 {w wr : World} {g : Nat} (h : Below w.heap.size w wr) (hg : w.heap.size ≤ g) (a b c d : Value) :
    Below w.heap.size w ((((wr.setCell ⟨g, 0, none⟩ a).setCell ⟨g, 1, none⟩ b).setCell ⟨g, 2, none⟩ c).setCell ⟨g, 3, none⟩ d) :=
  (((h.setCell (p := ⟨g, 0, none⟩) hg a).setCell (p := ⟨g, 1, none⟩) hg b).setCell (p := ⟨g, 2, none⟩) hg c).setCell (p := ⟨g, 3, none⟩) hg d
theorem blk_set4 {w : World} {g : Nat} {t : TypeId} {x0 x1 x2 x3 : Value} (h : Blk w g t #[x0, x1, x2, x3]) (a b c d : Value) :
    Blk ((((w.setCell ⟨g, 0, none⟩ a).setCell ⟨g, 1, none⟩ b).setCell ⟨g, 2, none⟩ c).setCell ⟨g, 3, none⟩ d) g t #[a, b, c, d] := (((h.set_ 0 a).set_ 1 b).set_ 2 c).set_ 3 d
theorem blk_far4 {w : World} {g g' : Nat} {t : TypeId} {cs : Array Value} (h : Blk w g' t cs) (hne : g' ≠ g) (a b c d : Value) :
    Blk ((((w.setCell ⟨g, 0, none⟩ a).setCell ⟨g, 1, none⟩ b).setCell ⟨g, 2, none⟩ c).setCell ⟨g, 3, none⟩ d) g' t cs :=
  (((h.far (p := ⟨g, 0, none⟩) hne a).far (p := ⟨g, 1, none⟩) hne b).far (p := ⟨g, 2, none⟩) hne c).far (p := ⟨g, 3, none⟩) hne d

set_option maxHeartbeats 1600000 in
theorem iGiven_any (r m h l : Int) (A A' : Option Addr) (n n' c c' : Nat) (ts qs : List Int) (w : World) {lo hi lo' hi' : Nat} (hs : Sl w lo hi 1 A n (ts.map (Value.int .i64))) (hs' : Sl w lo' hi' 1 A' n' (qs.map (Value.int .i64))) (hhi : hi ≤ w.heap.size) (hhi' : hi' ≤ w.heap.size)
    (hn : n ≤ 9223372036854775807) (hn' : n' ≤ 9223372036854775807) :
    Calls Try.prog 34 #[.agg #[.int .i64 r, .int .i64 m, .int .i64 h, .int .i64 l], .slice A n c, .slice A' n' c'] w fun e w' => e = .returned (.int .i64 (givenS r m h l ts qs)) ∧ Below w.heap.size w w' := by
  have HL := Lib.hid hs.len
  have HL' := Lib.hid hs'.len
  by_cases hv : givenOk r m h l ts qs = true
  · have HE : Hid (givenS r m h l ts qs = givenFrom r m h l 0 ts qs) := Lib.hid (by unfold givenS; rw [if_pos hv])
    unfold givenOk at hv
    simp only [Bool.and_eq_true, decide_eq_true_eq] at hv
    obtain ⟨⟨v0, v1⟩, v2⟩ := hv
    rw [HL.out, HL'.out] at v1
    rw [HL.out] at v2
    subst v1
    have d0 : ((n : Int) != (n : Int)) = false := by simp
    have d1 : decide ((40 : Int) < (n : Int)) = false := by simp; omega
    have hwb := (Below.refl w.heap.size w).alloc (Nat.le_refl _) (.cells #[.int .i64 r, .int .i64 m, .int .i64 h, .int .i64 l] 38)
    have hwb2 := hwb.alloc hwb.size (.cells #[.int .i64 r, .int .i64 m, .int .i64 h, .int .i64 l] 38)
    go_enter Try.func34, Try.ntmps34
    go_wp2_with (go_at_call 32; refine (iBucketValid_at _ _ _ _ _).mono ?_; rw [v0]; rintro e w' ⟨rfl, rfl⟩)
    go_loopw [7, 30] (fun s i wr => ∃ (k : Nat) (h' l' s' : Int), k ≤ n ∧ i = .int .i64 k ∧ s = .int .i64 s' ∧ GivRel r m h l ts qs k h' l' s' ∧ Blk wr w.heap.size 38 #[.int .i64 r, .int .i64 m, .int .i64 h', .int .i64 l'] ∧ Below w.heap.size w wr) (fun _ i _ => n - (intOf i).toNat)
    case atStart => exact ⟨0, h, l, 0, Nat.zero_le _, rfl, rfl, GivRel.start r m h l ts qs, (Blk.new _ _ _).alloc _, hwb2⟩
    case round =>
      obtain ⟨k, h', l', s', hk, rfl, rfl, hr, hB, hb⟩ := hrel
      have hz := hb.size
      have hz1 := hB.lt
      obtain ⟨e0, e1, e2, e3, e4⟩ := hB.four
      have hsb := hr.2
      by_cases hlt : k < n
      · obtain ⟨b, off, rfl, _, hbhi, hc, _⟩ := (hs.below hb hhi).Int hlt
        obtain ⟨b', off', rfl, _, hbhi', hc', _⟩ := (hs'.below hb hhi').Int hlt
        obtain ⟨⟨⟨ra, rb, rc, rd⟩, u, v⟩, hx⟩ : ∃ p, takeS r m h' l' (ts[k]?.getD 0) (qs[k]?.getD 0) = p := ⟨_, rfl⟩
        have hf := takeS_form hx
        have HX := Lib.hid hx
        have ne0 := World.new_ne wr _ e0
        have ne1 := World.new_ne wr _ e1
        have ne2 := World.new_ne wr _ e2
        have ne3 := World.new_ne wr _ e3
        have ne4 := World.new_ne wr _ hc
        have ne5 := World.new_ne wr _ hc'
        have hA := hB.alloc (.cells #[.int .i64 0, .int .i64 0, .int .i64 0, .int .i64 0] 38)
        have hzA : w.heap.size < ((wr.alloc (.cells #[.int .i64 0, .int .i64 0, .int .i64 0, .int .i64 0] 38)).drew).heap.size := by show _ < (wr.alloc _).heap.size; simp; omega
        have hzB : wr.heap.size ≤ ((wr.alloc (.cells #[.int .i64 0, .int .i64 0, .int .i64 0, .int .i64 0] 38)).drew).heap.size := by show _ ≤ (wr.alloc _).heap.size; simp
        have hki : (0 : Int) ≤ (k : Int) := by omega
        have hki2 : (k : Int) < (n : Int) := by omega
        rcases hf with ⟨rfl, rfl, rfl, hr1, ha0, ha1⟩ | ⟨rfl, rfl, rfl, rfl, rfl, rfl⟩
        · have hnext := Lib.hid (hr.next (by rw [HL.out]; exact hlt) (by rw [HL'.out]; exact hlt) hx)
          clear hx
          obtain ⟨x, hxa⟩ : ∃ x, qs[k]?.getD 0 = x := ⟨_, rfl⟩
          rw [hxa] at hnext HX hc' ha0 ha1
          clear hxa
          cases u
          · have hnext : Hid (GivRel ra rb h l ts qs (k + 1) rc rd s') := Lib.hid (by simpa using hnext.out)
            go_wp2
            go_region_held3 (fun w' => w'.cell? ⟨w.heap.size, 0, none⟩ = some (.int .i64 ra) ∧ w'.cell? ⟨w.heap.size, 1, none⟩ = some (.int .i64 rb) ∧ w'.cell? ⟨w.heap.size, 2, none⟩ = some (.int .i64 h') ∧ w'.cell? ⟨w.heap.size, 3, none⟩ = some (.int .i64 l') ∧ w'.cell? ⟨b, off + k, none⟩ = some (.int .i64 (ts[k]?.getD 0)) ∧ w'.cell? ⟨b', off' + k, none⟩ = some (.int .i64 x)) (first | go_keep) ((first | (go_at_call 47; refine (iTake3_is HX.out _).mono ?_; rintro e w1 ⟨rfl, hb1⟩; have q2 := hb1.cell (p := ⟨b, off + k, none⟩) (by simp; omega); have q3 := hb1.cell (p := ⟨b', off' + k, none⟩) (by simp; omega); first | (have f0 := hB.drew.below hb1 hz1; obtain ⟨g0, g1, g2, g3, g4⟩ := f0.four; have hb2 := hb.drew.trans (hb1.mono hz); have hz3 : w.heap.size < w1.heap.size := f0.lt) | (have f0 := hA.drew.below hb1 hzA; obtain ⟨g0, g1, g2, g3, g4⟩ := f0.four; have hb2 := ((hb.alloc hz _).drew).trans (hb1.mono (Nat.le_trans hz hzB)); have hz3 : w.heap.size < w1.heap.size := f0.lt; have fP := Blk.of_made hb1; obtain ⟨p0, p1, p2, p3, p4⟩ := fP.four))))
            · go_wp2
              have f1 := (blk_set4 f0 (.int .i64 ra) (.int .i64 rb) (.int .i64 rc) (.int .i64 rd)).alloc (.cells #[.int .i64 ra, .int .i64 rb, .int .i64 rc, .int .i64 rd] 38)
              have hb3 := (below_set4 hb2 (Nat.le_refl _) (.int .i64 ra) (.int .i64 rb) (.int .i64 rc) (.int .i64 rd)).alloc (by simp; omega) (.cells #[.int .i64 ra, .int .i64 rb, .int .i64 rc, .int .i64 rd] 38)
              go_roundw
              case rel => exact ⟨k + 1, rc, rd, s', by omega, by go_num, rfl, hnext.out, f1, hb3⟩
              case measure => simp [intOf]; omega
            · go_wp2
              have f1 := blk_set4 (blk_far4 f0 (g := wr.heap.size) (by omega) (.int .i64 ra) (.int .i64 rb) (.int .i64 rc) (.int .i64 rd)) (.int .i64 ra) (.int .i64 rb) (.int .i64 rc) (.int .i64 rd)
              have hb3 := below_set4 (below_set4 hb2 hz (.int .i64 ra) (.int .i64 rb) (.int .i64 rc) (.int .i64 rd)) (Nat.le_refl _) (.int .i64 ra) (.int .i64 rb) (.int .i64 rc) (.int .i64 rd)
              go_roundw
              case rel => exact ⟨k + 1, rc, rd, s', by omega, by go_num, rfl, hnext.out, f1, hb3⟩
              case measure => simp [intOf]; omega
          · have hnext : Hid (GivRel ra rb h l ts qs (k + 1) rc rd (s' + x)) := Lib.hid (by simpa using hnext.out)
            go_wp2
            go_region_held3 (fun w' => w'.cell? ⟨w.heap.size, 0, none⟩ = some (.int .i64 ra) ∧ w'.cell? ⟨w.heap.size, 1, none⟩ = some (.int .i64 rb) ∧ w'.cell? ⟨w.heap.size, 2, none⟩ = some (.int .i64 h') ∧ w'.cell? ⟨w.heap.size, 3, none⟩ = some (.int .i64 l') ∧ w'.cell? ⟨b, off + k, none⟩ = some (.int .i64 (ts[k]?.getD 0)) ∧ w'.cell? ⟨b', off' + k, none⟩ = some (.int .i64 x)) (first | go_keep) ((first | (go_at_call 47; refine (iTake3_is HX.out _).mono ?_; rintro e w1 ⟨rfl, hb1⟩; have q2 := hb1.cell (p := ⟨b, off + k, none⟩) (by simp; omega); have q3 := hb1.cell (p := ⟨b', off' + k, none⟩) (by simp; omega); first | (have f0 := hB.drew.below hb1 hz1; obtain ⟨g0, g1, g2, g3, g4⟩ := f0.four; have hb2 := hb.drew.trans (hb1.mono hz); have hz3 : w.heap.size < w1.heap.size := f0.lt) | (have f0 := hA.drew.below hb1 hzA; obtain ⟨g0, g1, g2, g3, g4⟩ := f0.four; have hb2 := ((hb.alloc hz _).drew).trans (hb1.mono (Nat.le_trans hz hzB)); have hz3 : w.heap.size < w1.heap.size := f0.lt; have fP := Blk.of_made hb1; obtain ⟨p0, p1, p2, p3, p4⟩ := fP.four))))
            · go_wp2
              have f1 := (blk_set4 f0 (.int .i64 ra) (.int .i64 rb) (.int .i64 rc) (.int .i64 rd)).alloc (.cells #[.int .i64 ra, .int .i64 rb, .int .i64 rc, .int .i64 rd] 38)
              have hb3 := (below_set4 hb2 (Nat.le_refl _) (.int .i64 ra) (.int .i64 rb) (.int .i64 rc) (.int .i64 rd)).alloc (by simp; omega) (.cells #[.int .i64 ra, .int .i64 rb, .int .i64 rc, .int .i64 rd] 38)
              go_roundw
              case rel => exact ⟨k + 1, rc, rd, s' + x, by omega, by go_num, rfl, hnext.out, f1, hb3⟩
              case measure => simp [intOf]; omega
            · go_wp2
              have f1 := blk_set4 (blk_far4 f0 (g := wr.heap.size) (by omega) (.int .i64 ra) (.int .i64 rb) (.int .i64 rc) (.int .i64 rd)) (.int .i64 ra) (.int .i64 rb) (.int .i64 rc) (.int .i64 rd)
              have hb3 := below_set4 (below_set4 hb2 hz (.int .i64 ra) (.int .i64 rb) (.int .i64 rc) (.int .i64 rd)) (Nat.le_refl _) (.int .i64 ra) (.int .i64 rb) (.int .i64 rc) (.int .i64 rd)
              go_roundw
              case rel => exact ⟨k + 1, rc, rd, s' + x, by omega, by go_num, rfl, hnext.out, f1, hb3⟩
              case measure => simp [intOf]; omega
        · have HD := Lib.hid (HE.out.trans (hr.out (by rw [HL.out]; exact hlt) (by rw [HL'.out]; exact hlt) hx))
          clear hx
          obtain ⟨x, hxa⟩ : ∃ x, qs[k]?.getD 0 = x := ⟨_, rfl⟩
          rw [hxa] at HX hc'
          clear hxa
          go_wp2
          go_region_held3 (fun w' => w'.cell? ⟨w.heap.size, 0, none⟩ = some (.int .i64 r) ∧ w'.cell? ⟨w.heap.size, 1, none⟩ = some (.int .i64 m) ∧ w'.cell? ⟨w.heap.size, 2, none⟩ = some (.int .i64 h') ∧ w'.cell? ⟨w.heap.size, 3, none⟩ = some (.int .i64 l') ∧ w'.cell? ⟨b, off + k, none⟩ = some (.int .i64 (ts[k]?.getD 0)) ∧ w'.cell? ⟨b', off' + k, none⟩ = some (.int .i64 x)) (first | go_keep) ((first | (go_at_call 47; refine (iTake3_is HX.out _).mono ?_; rintro e w1 ⟨rfl, hb1⟩; have q2 := hb1.cell (p := ⟨b, off + k, none⟩) (by simp; omega); have q3 := hb1.cell (p := ⟨b', off' + k, none⟩) (by simp; omega); first | (have f0 := hB.drew.below hb1 hz1; obtain ⟨g0, g1, g2, g3, g4⟩ := f0.four; have hb2 := hb.drew.trans (hb1.mono hz); have hz3 : w.heap.size < w1.heap.size := f0.lt) | (have f0 := hA.drew.below hb1 hzA; obtain ⟨g0, g1, g2, g3, g4⟩ := f0.four; have hb2 := ((hb.alloc hz _).drew).trans (hb1.mono (Nat.le_trans hz hzB)); have hz3 : w.heap.size < w1.heap.size := f0.lt; have fP := Blk.of_made hb1; obtain ⟨p0, p1, p2, p3, p4⟩ := fP.four))))
          · go_wp2
            go_ret
            exact ⟨ret_int HD.out.symm, hb2.alloc (by omega) _⟩
          · go_wp2
            go_ret
            exact ⟨ret_int HD.out.symm, below_set4 hb2 hz _ _ _ _⟩
      · obtain rfl : n = k := by omega
        have HD := Lib.hid (HE.out.trans (GivRel.done (by rw [HL.out]; exact hr)))
        go_wp2
        go_ret
        exact ⟨ret_int HD.out.symm, hb⟩
  · have HE : Hid (givenS r m h l ts qs = -1) := Lib.hid (by unfold givenS; rw [if_neg hv])
    have hwb := (Below.refl w.heap.size w).alloc (Nat.le_refl _) (.cells #[.int .i64 r, .int .i64 m, .int .i64 h, .int .i64 l] 38)
    have hwb2 := hwb.alloc hwb.size (.cells #[.int .i64 r, .int .i64 m, .int .i64 h, .int .i64 l] 38)
    by_cases v0 : bucketV r m h l = true
    · by_cases v1 : n = n'
      · subst v1
        have d0 : ((n : Int) != (n : Int)) = false := by simp
        have d1 : decide ((40 : Int) < (n : Int)) = true := by
          unfold givenOk at hv
          rw [v0, HL.out, HL'.out] at hv
          simp at hv ⊢
          omega
        clear hv
        go_enter Try.func34, Try.ntmps34
        go_wp2_with (go_at_call 32; refine (iBucketValid_at _ _ _ _ _).mono ?_; rw [v0]; rintro e w' ⟨rfl, rfl⟩)
        go_ret
        exact ⟨ret_int HE.out.symm, hwb2⟩
      · have d0 : ((n : Int) != (n' : Int)) = true := by simp; omega
        clear hv
        go_enter Try.func34, Try.ntmps34
        go_wp2_with (go_at_call 32; refine (iBucketValid_at _ _ _ _ _).mono ?_; rw [v0]; rintro e w' ⟨rfl, rfl⟩)
        go_ret
        exact ⟨ret_int HE.out.symm, hwb2⟩
    · have v0' := Bool.eq_false_iff.2 v0
      clear hv v0
      go_enter Try.func34, Try.ntmps34
      go_wp2_with (go_at_call 32; refine (iBucketValid_at _ _ _ _ _).mono ?_; rw [v0']; rintro e w' ⟨rfl, rfl⟩)
      go_ret
      exact ⟨ret_int HE.out.symm, hwb2⟩

set_option maxHeartbeats 1600000 in
theorem sGiven_any (r m h l : Int) (A A' : Option Addr) (n n' c c' : Nat) (ts qs : List Int) (w : World) {lo hi lo' hi' : Nat} (hs : Sl w lo hi 1 A n (ts.map (Value.int .i64))) (hs' : Sl w lo' hi' 1 A' n' (qs.map (Value.int .i64))) (hhi : hi ≤ w.heap.size) (hhi' : hi' ≤ w.heap.size)
    (hn : n ≤ 9223372036854775807) (hn' : n' ≤ 9223372036854775807) :
    Calls Try.prog 33 #[.agg #[.int .i64 r, .int .i64 m, .int .i64 h, .int .i64 l], .slice A n c, .slice A' n' c'] w fun e w' => e = .returned (.int .i64 (givenS r m h l ts qs)) ∧ Below w.heap.size w w' := by
  have HL := Lib.hid hs.len
  have HL' := Lib.hid hs'.len
  by_cases hv : givenOk r m h l ts qs = true
  · have HE : Hid (givenS r m h l ts qs = givenFrom r m h l 0 ts qs) := Lib.hid (by unfold givenS; rw [if_pos hv])
    unfold givenOk at hv
    simp only [Bool.and_eq_true, decide_eq_true_eq] at hv
    obtain ⟨⟨v0, v1⟩, v2⟩ := hv
    rw [HL.out, HL'.out] at v1
    rw [HL.out] at v2
    subst v1
    have d0 : ((n : Int) != (n : Int)) = false := by simp
    have d1 : decide ((40 : Int) < (n : Int)) = false := by simp; omega
    have hwb := (Below.refl w.heap.size w).alloc (Nat.le_refl _) (.cells #[.int .i64 r, .int .i64 m, .int .i64 h, .int .i64 l] 38)
    have hwb2 := hwb.alloc hwb.size (.cells #[.int .i64 r, .int .i64 m, .int .i64 h, .int .i64 l] 38)
    go_enter Try.func33, Try.ntmps33
    go_wp2_with (go_at_call 46; refine (sBucketValid_at _ _ _ _ _).mono ?_; rw [v0]; rintro e w' ⟨rfl, rfl⟩)
    go_loopw [7, 8] (fun s i wr => ∃ (k : Nat) (h' l' s' : Int), k ≤ n ∧ i = .int .i64 k ∧ s = .int .i64 s' ∧ GivRel r m h l ts qs k h' l' s' ∧ Blk wr w.heap.size 38 #[.int .i64 r, .int .i64 m, .int .i64 h', .int .i64 l'] ∧ Below w.heap.size w wr) (fun _ i _ => n - (intOf i).toNat)
    case atStart => exact ⟨0, h, l, 0, Nat.zero_le _, rfl, rfl, GivRel.start r m h l ts qs, (Blk.new _ _ _).alloc _, hwb2⟩
    case round =>
      obtain ⟨k, h', l', s', hk, rfl, rfl, hr, hB, hb⟩ := hrel
      have hz := hb.size
      have hz1 := hB.lt
      obtain ⟨e0, e1, e2, e3, e4⟩ := hB.four
      have hsb := hr.2
      by_cases hlt : k < n
      · obtain ⟨b, off, rfl, _, hbhi, hc, _⟩ := (hs.below hb hhi).Int hlt
        obtain ⟨b', off', rfl, _, hbhi', hc', _⟩ := (hs'.below hb hhi').Int hlt
        obtain ⟨⟨⟨ra, rb, rc, rd⟩, u, v⟩, hx⟩ : ∃ p, takeS r m h' l' (ts[k]?.getD 0) (qs[k]?.getD 0) = p := ⟨_, rfl⟩
        have hf := takeS_form hx
        have HX := Lib.hid hx
        have ne0 := World.new_ne wr _ e0
        have ne1 := World.new_ne wr _ e1
        have ne2 := World.new_ne wr _ e2
        have ne3 := World.new_ne wr _ e3
        have ne4 := World.new_ne wr _ hc
        have ne5 := World.new_ne wr _ hc'
        have hA := hB.alloc (.cells #[.int .i64 0, .int .i64 0, .int .i64 0, .int .i64 0] 38)
        have hzA : w.heap.size < ((wr.alloc (.cells #[.int .i64 0, .int .i64 0, .int .i64 0, .int .i64 0] 38)).drew).heap.size := by show _ < (wr.alloc _).heap.size; simp; omega
        have hzB : wr.heap.size ≤ ((wr.alloc (.cells #[.int .i64 0, .int .i64 0, .int .i64 0, .int .i64 0] 38)).drew).heap.size := by show _ ≤ (wr.alloc _).heap.size; simp
        have hki : (0 : Int) ≤ (k : Int) := by omega
        have hki2 : (k : Int) < (n : Int) := by omega
        rcases hf with ⟨rfl, rfl, rfl, hr1, ha0, ha1⟩ | ⟨rfl, rfl, rfl, rfl, rfl, rfl⟩
        · have hnext := Lib.hid (hr.next (by rw [HL.out]; exact hlt) (by rw [HL'.out]; exact hlt) hx)
          clear hx
          obtain ⟨x, hxa⟩ : ∃ x, qs[k]?.getD 0 = x := ⟨_, rfl⟩
          rw [hxa] at hnext HX hc' ha0 ha1
          clear hxa
          cases u
          · have hnext : Hid (GivRel ra rb h l ts qs (k + 1) rc rd s') := Lib.hid (by simpa using hnext.out)
            go_wp2
            go_region_held3 (fun w' => w'.cell? ⟨w.heap.size, 0, none⟩ = some (.int .i64 ra) ∧ w'.cell? ⟨w.heap.size, 1, none⟩ = some (.int .i64 rb) ∧ w'.cell? ⟨w.heap.size, 2, none⟩ = some (.int .i64 h') ∧ w'.cell? ⟨w.heap.size, 3, none⟩ = some (.int .i64 l') ∧ w'.cell? ⟨b, off + k, none⟩ = some (.int .i64 (ts[k]?.getD 0)) ∧ w'.cell? ⟨b', off' + k, none⟩ = some (.int .i64 x)) (first | go_keep) ((first | (go_at_call 27; refine (sTake_is HX.out _).mono ?_; rintro e w1 ⟨rfl, hb1⟩; have q2 := hb1.cell (p := ⟨b, off + k, none⟩) (by simp; omega); have q3 := hb1.cell (p := ⟨b', off' + k, none⟩) (by simp; omega); first | (have f0 := hB.drew.below hb1 hz1; obtain ⟨g0, g1, g2, g3, g4⟩ := f0.four; have hb2 := hb.drew.trans (hb1.mono hz); have hz3 : w.heap.size < w1.heap.size := f0.lt) | (have f0 := hA.drew.below hb1 hzA; obtain ⟨g0, g1, g2, g3, g4⟩ := f0.four; have hb2 := ((hb.alloc hz _).drew).trans (hb1.mono (Nat.le_trans hz hzB)); have hz3 : w.heap.size < w1.heap.size := f0.lt; have fP := Blk.of_made hb1; obtain ⟨p0, p1, p2, p3, p4⟩ := fP.four))))
            · go_wp2
              have f1 := (blk_set4 f0 (.int .i64 ra) (.int .i64 rb) (.int .i64 rc) (.int .i64 rd)).alloc (.cells #[.int .i64 ra, .int .i64 rb, .int .i64 rc, .int .i64 rd] 38)
              have hb3 := (below_set4 hb2 (Nat.le_refl _) (.int .i64 ra) (.int .i64 rb) (.int .i64 rc) (.int .i64 rd)).alloc (by simp; omega) (.cells #[.int .i64 ra, .int .i64 rb, .int .i64 rc, .int .i64 rd] 38)
              go_roundw
              case rel => exact ⟨k + 1, rc, rd, s', by omega, by go_num, rfl, hnext.out, f1, hb3⟩
              case measure => simp [intOf]; omega
            · go_wp2
              have f1 := blk_set4 (blk_far4 f0 (g := wr.heap.size) (by omega) (.int .i64 ra) (.int .i64 rb) (.int .i64 rc) (.int .i64 rd)) (.int .i64 ra) (.int .i64 rb) (.int .i64 rc) (.int .i64 rd)
              have hb3 := below_set4 (below_set4 hb2 hz (.int .i64 ra) (.int .i64 rb) (.int .i64 rc) (.int .i64 rd)) (Nat.le_refl _) (.int .i64 ra) (.int .i64 rb) (.int .i64 rc) (.int .i64 rd)
              go_roundw
              case rel => exact ⟨k + 1, rc, rd, s', by omega, by go_num, rfl, hnext.out, f1, hb3⟩
              case measure => simp [intOf]; omega
          · have hnext : Hid (GivRel ra rb h l ts qs (k + 1) rc rd (s' + x)) := Lib.hid (by simpa using hnext.out)
            go_wp2
            go_region_held3 (fun w' => w'.cell? ⟨w.heap.size, 0, none⟩ = some (.int .i64 ra) ∧ w'.cell? ⟨w.heap.size, 1, none⟩ = some (.int .i64 rb) ∧ w'.cell? ⟨w.heap.size, 2, none⟩ = some (.int .i64 h') ∧ w'.cell? ⟨w.heap.size, 3, none⟩ = some (.int .i64 l') ∧ w'.cell? ⟨b, off + k, none⟩ = some (.int .i64 (ts[k]?.getD 0)) ∧ w'.cell? ⟨b', off' + k, none⟩ = some (.int .i64 x)) (first | go_keep) ((first | (go_at_call 27; refine (sTake_is HX.out _).mono ?_; rintro e w1 ⟨rfl, hb1⟩; have q2 := hb1.cell (p := ⟨b, off + k, none⟩) (by simp; omega); have q3 := hb1.cell (p := ⟨b', off' + k, none⟩) (by simp; omega); first | (have f0 := hB.drew.below hb1 hz1; obtain ⟨g0, g1, g2, g3, g4⟩ := f0.four; have hb2 := hb.drew.trans (hb1.mono hz); have hz3 : w.heap.size < w1.heap.size := f0.lt) | (have f0 := hA.drew.below hb1 hzA; obtain ⟨g0, g1, g2, g3, g4⟩ := f0.four; have hb2 := ((hb.alloc hz _).drew).trans (hb1.mono (Nat.le_trans hz hzB)); have hz3 : w.heap.size < w1.heap.size := f0.lt; have fP := Blk.of_made hb1; obtain ⟨p0, p1, p2, p3, p4⟩ := fP.four))))
            · go_wp2
              have f1 := (blk_set4 f0 (.int .i64 ra) (.int .i64 rb) (.int .i64 rc) (.int .i64 rd)).alloc (.cells #[.int .i64 ra, .int .i64 rb, .int .i64 rc, .int .i64 rd] 38)
              have hb3 := (below_set4 hb2 (Nat.le_refl _) (.int .i64 ra) (.int .i64 rb) (.int .i64 rc) (.int .i64 rd)).alloc (by simp; omega) (.cells #[.int .i64 ra, .int .i64 rb, .int .i64 rc, .int .i64 rd] 38)
              go_roundw
              case rel => exact ⟨k + 1, rc, rd, s' + x, by omega, by go_num, rfl, hnext.out, f1, hb3⟩
              case measure => simp [intOf]; omega
            · go_wp2
              have f1 := blk_set4 (blk_far4 f0 (g := wr.heap.size) (by omega) (.int .i64 ra) (.int .i64 rb) (.int .i64 rc) (.int .i64 rd)) (.int .i64 ra) (.int .i64 rb) (.int .i64 rc) (.int .i64 rd)
              have hb3 := below_set4 (below_set4 hb2 hz (.int .i64 ra) (.int .i64 rb) (.int .i64 rc) (.int .i64 rd)) (Nat.le_refl _) (.int .i64 ra) (.int .i64 rb) (.int .i64 rc) (.int .i64 rd)
              go_roundw
              case rel => exact ⟨k + 1, rc, rd, s' + x, by omega, by go_num, rfl, hnext.out, f1, hb3⟩
              case measure => simp [intOf]; omega
        · have HD := Lib.hid (HE.out.trans (hr.out (by rw [HL.out]; exact hlt) (by rw [HL'.out]; exact hlt) hx))
          clear hx
          obtain ⟨x, hxa⟩ : ∃ x, qs[k]?.getD 0 = x := ⟨_, rfl⟩
          rw [hxa] at HX hc'
          clear hxa
          go_wp2
          go_region_held3 (fun w' => w'.cell? ⟨w.heap.size, 0, none⟩ = some (.int .i64 r) ∧ w'.cell? ⟨w.heap.size, 1, none⟩ = some (.int .i64 m) ∧ w'.cell? ⟨w.heap.size, 2, none⟩ = some (.int .i64 h') ∧ w'.cell? ⟨w.heap.size, 3, none⟩ = some (.int .i64 l') ∧ w'.cell? ⟨b, off + k, none⟩ = some (.int .i64 (ts[k]?.getD 0)) ∧ w'.cell? ⟨b', off' + k, none⟩ = some (.int .i64 x)) (first | go_keep) ((first | (go_at_call 27; refine (sTake_is HX.out _).mono ?_; rintro e w1 ⟨rfl, hb1⟩; have q2 := hb1.cell (p := ⟨b, off + k, none⟩) (by simp; omega); have q3 := hb1.cell (p := ⟨b', off' + k, none⟩) (by simp; omega); first | (have f0 := hB.drew.below hb1 hz1; obtain ⟨g0, g1, g2, g3, g4⟩ := f0.four; have hb2 := hb.drew.trans (hb1.mono hz); have hz3 : w.heap.size < w1.heap.size := f0.lt) | (have f0 := hA.drew.below hb1 hzA; obtain ⟨g0, g1, g2, g3, g4⟩ := f0.four; have hb2 := ((hb.alloc hz _).drew).trans (hb1.mono (Nat.le_trans hz hzB)); have hz3 : w.heap.size < w1.heap.size := f0.lt; have fP := Blk.of_made hb1; obtain ⟨p0, p1, p2, p3, p4⟩ := fP.four))))
          · go_wp2
            go_ret
            exact ⟨ret_int HD.out.symm, hb2.alloc (by omega) _⟩
          · go_wp2
            go_ret
            exact ⟨ret_int HD.out.symm, below_set4 hb2 hz _ _ _ _⟩
      · obtain rfl : n = k := by omega
        have HD := Lib.hid (HE.out.trans (GivRel.done (by rw [HL.out]; exact hr)))
        go_wp2
        go_ret
        exact ⟨ret_int HD.out.symm, hb⟩
  · have HE : Hid (givenS r m h l ts qs = -1) := Lib.hid (by unfold givenS; rw [if_neg hv])
    have hwb := (Below.refl w.heap.size w).alloc (Nat.le_refl _) (.cells #[.int .i64 r, .int .i64 m, .int .i64 h, .int .i64 l] 38)
    have hwb2 := hwb.alloc hwb.size (.cells #[.int .i64 r, .int .i64 m, .int .i64 h, .int .i64 l] 38)
    by_cases v0 : bucketV r m h l = true
    · by_cases v1 : n = n'
      · subst v1
        have d0 : ((n : Int) != (n : Int)) = false := by simp
        have d1 : decide ((40 : Int) < (n : Int)) = true := by
          unfold givenOk at hv
          rw [v0, HL.out, HL'.out] at hv
          simp at hv ⊢
          omega
        clear hv
        go_enter Try.func33, Try.ntmps33
        go_wp2_with (go_at_call 46; refine (sBucketValid_at _ _ _ _ _).mono ?_; rw [v0]; rintro e w' ⟨rfl, rfl⟩)
        go_ret
        exact ⟨ret_int HE.out.symm, hwb2⟩
      · have d0 : ((n : Int) != (n' : Int)) = true := by simp; omega
        clear hv
        go_enter Try.func33, Try.ntmps33
        go_wp2_with (go_at_call 46; refine (sBucketValid_at _ _ _ _ _).mono ?_; rw [v0]; rintro e w' ⟨rfl, rfl⟩)
        go_ret
        exact ⟨ret_int HE.out.symm, hwb2⟩
    · have v0' := Bool.eq_false_iff.2 v0
      clear hv v0
      go_enter Try.func33, Try.ntmps33
      go_wp2_with (go_at_call 46; refine (sBucketValid_at _ _ _ _ _).mono ?_; rw [v0']; rintro e w' ⟨rfl, rfl⟩)
      go_ret
      exact ⟨ret_int HE.out.symm, hwb2⟩
end Go.Proofs.Ytjiebaidjflkjaa
