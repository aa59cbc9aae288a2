/-
  WrapPacket and UnwrapPacket of both packages: Lean functions; l1OwnPacket.
-/
import Derived.Test.YtleammkpfknngaaGet0
import Derived.Test.YtleammkpfknngaaPktPutD
namespace Go.Proofs.Ytleammkpfknngaa
open Go.RowKit
set_option linter.unusedVariables false

/-- Can a packet be wrapped? -/
def wrV (f t k l : Int) (zs : List Int) (fr tt : Int) : Bool := pktV f t k l zs.length && pktV fr tt 3 64 (putP f t k l zs).length
def wrF (f t k l : Int) (zs : List Int) (fr tt : Int) (x : Int) : Int := if wrV f t k l zs fr tt then x else 0
def wrB (f t k l : Int) (zs : List Int) (fr tt : Int) : List Int := if wrV f t k l zs fr tt then putP f t k l zs else []
theorem wrB_len {f t k l : Int} {zs : List Int} {fr tt : Int} : (wrB f t k l zs fr tt).length ≤ 86 := by
  unfold wrB
  split
  · exact putP_bd
  · simp
theorem wr_yes {f t k l : Int} {zs : List Int} {fr tt : Int} (h : wrV f t k l zs fr tt = true) : wrF f t k l zs fr tt fr = fr ∧ wrF f t k l zs fr tt tt = tt ∧ wrF f t k l zs fr tt 3 = 3 ∧ wrF f t k l zs fr tt 64 = 64 ∧ wrB f t k l zs fr tt = putP f t k l zs := by
  unfold wrF wrB
  rw [h]
  exact ⟨rfl, rfl, rfl, rfl, rfl⟩
theorem wr_no {f t k l : Int} {zs : List Int} {fr tt : Int} (h : wrV f t k l zs fr tt = false) : wrF f t k l zs fr tt fr = 0 ∧ wrF f t k l zs fr tt tt = 0 ∧ wrF f t k l zs fr tt 3 = 0 ∧ wrF f t k l zs fr tt 64 = 0 ∧ wrB f t k l zs fr tt = [] := by
  unfold wrF wrB
  rw [h]
  exact ⟨rfl, rfl, rfl, rfl, rfl⟩
/-- Can a packet be unwrapped at an address? -/
def unA (f t k l : Int) (zs : List Int) (tt : Int) : Bool := pktV f t k l zs.length && (k == 3) && (t == tt)
def unV (f t k l : Int) (zs : List Int) (tt : Int) : Bool := unA f t k l zs tt && getV zs
def unF (f t k l : Int) (zs : List Int) (tt : Int) (i : Nat) : Int := if unA f t k l zs tt then getF zs i else 0
def unB (f t k l : Int) (zs : List Int) (tt : Int) : List Int := if unA f t k l zs tt then getB zs else []
theorem unB_len {f t k l : Int} {zs : List Int} {tt : Int} : (unB f t k l zs tt).length ≤ zs.length := by
  unfold unB getB
  split
  · split <;> simp
  · simp
theorem un_yes {f t k l : Int} {zs : List Int} {tt : Int} (h : unA f t k l zs tt = true) : unF f t k l zs tt 4 = getF zs 4 ∧ unF f t k l zs tt 5 = getF zs 5 ∧ unF f t k l zs tt 1 = getF zs 1 ∧ unF f t k l zs tt 2 = getF zs 2 ∧ unB f t k l zs tt = getB zs ∧ unV f t k l zs tt = getV zs := by
  unfold unF unB unV
  rw [h]
  exact ⟨rfl, rfl, rfl, rfl, rfl, rfl⟩
theorem un_no {f t k l : Int} {zs : List Int} {tt : Int} (h : unA f t k l zs tt = false) : unF f t k l zs tt 4 = 0 ∧ unF f t k l zs tt 5 = 0 ∧ unF f t k l zs tt 1 = 0 ∧ unF f t k l zs tt 2 = 0 ∧ unB f t k l zs tt = [] ∧ unV f t k l zs tt = false := by
  unfold unF unB unV
  rw [h]
  exact ⟨rfl, rfl, rfl, rfl, rfl, rfl⟩

/-- A call hands back a packet with a body of its own. -/
def RetPk (w : World) (f t k l : Int) (body : List Int) (e : Ending) (w' : World) : Prop := ∃ A n c, e = .returned (.agg #[.int .i64 f, .int .i64 t, .int .i64 k, .int .i64 l, .slice A n c]) ∧ body.length = n ∧ n ≤ c ∧ c ≤ maxLen ∧ w'.ownsRow w.heap.size 5 1 (.slice A n c) n (body.map (Value.int .u8)) ∧ Below w.heap.size w w'
theorem ownPacket_any (f t k l : Int) (A : Option Addr) (n c : Nat) (zs : List Int) (w : World) {lo hi : Nat} (hs : Sl w lo hi 1 A n (zs.map (Value.int .u8))) (hhi : hi ≤ w.heap.size) (hn : n ≤ 1048576) :
    Calls Try.prog 49 #[.agg #[.int .i64 f, .int .i64 t, .int .i64 k, .int .i64 l, .slice A n c]] w (RetPk w f t k l zs) := by
  obtain ⟨i0, hi0, hz0, hz1, hz2⟩ := info_parts infoByte
  have HL := Lib.hid hs.len
  have e0 := (((((Below.refl w.heap.size w).alloc (Nat.le_refl _) (.cells #[.int .i64 f, .int .i64 t, .int .i64 k, .int .i64 l, .slice A n c] 27)).alloc (by simp) (.cells #[.int .i64 0, .int .i64 0, .int .i64 0, .int .i64 0, .slice none 0 0] 27)).alloc (by simp; omega) (.cells #[.int .i64 f, .int .i64 t, .int .i64 k, .int .i64 l, .slice A n c] 27))).alloc (by simp; omega) (.cells #[] 5)
  have K0 := ((Blk.new (w.alloc (.cells #[.int .i64 f, .int .i64 t, .int .i64 k, .int .i64 l, .slice A n c] 27)) 27 #[.int .i64 0, .int .i64 0, .int .i64 0, .int .i64 0, .slice none 0 0]).alloc (.cells #[.int .i64 f, .int .i64 t, .int .i64 k, .int .i64 l, .slice A n c] 27)).alloc (.cells #[] 5)
  have Q0 := (Blk.new ((w.alloc (.cells #[.int .i64 f, .int .i64 t, .int .i64 k, .int .i64 l, .slice A n c] 27)).alloc (.cells #[.int .i64 0, .int .i64 0, .int .i64 0, .int .i64 0, .slice none 0 0] 27)) 27 #[.int .i64 f, .int .i64 t, .int .i64 k, .int .i64 l, .slice A n c]).alloc (.cells #[] 5)
  have ownE := World.ownsRow_lit (base := w.heap.size) (e := 5) (size := 1) (((w.alloc (.cells #[.int .i64 f, .int .i64 t, .int .i64 k, .int .i64 l, .slice A n c] 27)).alloc (.cells #[.int .i64 0, .int .i64 0, .int .i64 0, .int .i64 0, .slice none 0 0] 27)).alloc (.cells #[.int .i64 f, .int .i64 t, .int .i64 k, .int .i64 l, .slice A n c] 27)) #[] 0 (by simp; omega) (by unfold maxLen; omega) (by simp)
  have sl := (((hs.alloc hhi (.cells #[.int .i64 f, .int .i64 t, .int .i64 k, .int .i64 l, .slice A n c] 27)).alloc (by simp; omega) (.cells #[.int .i64 0, .int .i64 0, .int .i64 0, .int .i64 0, .slice none 0 0] 27)).alloc (by simp; omega) (.cells #[.int .i64 f, .int .i64 t, .int .i64 k, .int .i64 l, .slice A n c] 27)).alloc (by simp; omega) (.cells #[] 5)
  simp only [World.size_alloc] at K0 Q0 ownE
  go_enter Try.func49, Try.ntmps49
  go_wp2_with (at_builtin; (refine wpList_append_sl _ rfl _ _ 22 rfl w.heap.size 5 i0 _ 1 1 Try.underlying22 hi0 hz0 hz1 hz2 rfl (by decide) _ 0 _ (by rfl) ownE _ _ A n c (zs.map (Value.int .u8)) rfl sl (one_u8 zs) (by unfold maxLen; omega) (by omega) (by simp; omega) ?_); intro v1 w1 own1 g1 at1; obtain ⟨A1, c1, hv1, hc1, hc2⟩ := own_is_slice own1; subst hv1; have K1 := K0.grown g1 (by simp [Value.ownBlock] <;> omega); have Q1 := Q0.grown g1 (by simp [Value.ownBlock] <;> omega); obtain ⟨q0, q1, q2, q3, q4, qf⟩ := Q1.five_; obtain ⟨d0, d1, d2, d3, d4, df⟩ := K1.five_)
  have b1 := below_append e0 ownE g1
  have own1' : w1.ownsRow w.heap.size 5 1 (.slice A1 n c1) n (zs.map (Value.int .u8)) := by
    have := own1
    rw [Nat.zero_add, show (#[] : Array Value).toList ++ zs.map (Value.int .u8) = zs.map (Value.int .u8) from rfl] at this
    exact this
  have hne1 : (Value.slice A1 n c1).ownBlock ≠ some (w.heap.size + 1 + 1) := own_ne own1' Q1 (by decide)
  have hne2 : (Value.slice A1 n c1).ownBlock ≠ some (w.heap.size + 1) := own_ne own1' K1 (by decide)
  have Q2 := Q1.set_ 4 (.slice A1 n c1)
  have K2 := K1.far (p := ⟨w.heap.size + 1 + 1, 4, none⟩) (show w.heap.size + 1 ≠ w.heap.size + 1 + 1 by omega) (.slice A1 n c1)
  have own2 := own_set (i := 4) own1' hne1 (.slice A1 n c1)
  have b2 := b1.setCell (p := ⟨w.heap.size + 1 + 1, 4, none⟩) (show w.heap.size ≤ w.heap.size + 1 + 1 by omega) (.slice A1 n c1)
  have KE := K2.setFive (.int .i64 f) (.int .i64 t) (.int .i64 k) (.int .i64 l) (.slice A1 n c1)
  have RE := own_set5 own2 hne2 (.int .i64 f) (.int .i64 t) (.int .i64 k) (.int .i64 l) (.slice A1 n c1)
  obtain ⟨r0, r1, r2, r3, r4⟩ := KE.five
  unfold set5 at r0 r1 r2 r3 r4
  refine bodyPost_ret (v := .agg #[.int .i64 f, .int .i64 t, .int .i64 k, .int .i64 l, .slice A1 n c1]) ?_ rfl ?_
  · clear d0 d1 d2 d3 d4 df q0 q1 q2 q3 q4
    simp [results, Try.results49, go_sem, r0, r1, r2, r3, r4]
  exact ⟨A1, n, c1, rfl, HL.out, by omega, hc2, RE, ((((b2.setCell (p := ⟨w.heap.size + 1, 0, none⟩) (Nat.le_succ _) _).setCell (p := ⟨w.heap.size + 1, 1, none⟩) (Nat.le_succ _) _).setCell (p := ⟨w.heap.size + 1, 2, none⟩) (Nat.le_succ _) _).setCell (p := ⟨w.heap.size + 1, 3, none⟩) (Nat.le_succ _) _).setCell (p := ⟨w.heap.size + 1, 4, none⟩) (Nat.le_succ _) _⟩
end Go.Proofs.Ytleammkpfknngaa
