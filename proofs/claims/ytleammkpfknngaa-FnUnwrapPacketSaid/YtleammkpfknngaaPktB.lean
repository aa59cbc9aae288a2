/-
  Packets: toPacket, eqPacket of the laws; the walk of FnExactPacketValid.
-/
import Derived.Test.YtleammkpfknngaaPktA
import Derived.Test.YtleammkpfknngaaHost0
namespace Go.Proofs.Ytleammkpfknngaa
open Go.RowKit
set_option linter.unusedVariables false

theorem toPacket_any (f t k l : Int) (A : Option Addr) (n c : Nat) (zs : List Int) (w : World) {lo hi : Nat} (hs : Sl w lo hi 1 A n (zs.map (Value.int .u8))) (hhi : hi ≤ w.heap.size) (hn : n ≤ 1048576) :
    Calls Try.prog 14 #[.agg #[.int .i64 f, .int .i64 t, .int .i64 k, .int .i64 l, .slice A n c]] w fun e w' => e = .returned (.agg #[.int .i64 f, .int .i64 t, .int .i64 k, .int .i64 l, .slice (some ⟨w.heap.size + 1 + 1 + 1, 0, none⟩) n n]) ∧
      w'.ownsRow (w.heap.size + 1 + 1 + 1) 5 1 (.slice (some ⟨w.heap.size + 1 + 1 + 1, 0, none⟩) n n) n (zs.map (Value.int .u8)) ∧ Below w.heap.size w w' := by
  go_enter Try.func14, Try.ntmps14
  go_wp2_with fail
  refine (toByteS_any _ _ _ zs _ (hs.below (B := w.heap.size) (by repeat' first | exact Below.refl _ _ | refine Below.alloc ?_ (by simp; try omega) _) hhi) (by simp; omega) hn).mono ?_
  rintro e w1 ⟨rfl, own1, b1⟩
  have c1 := (bcell b1).1
  have f1 := (bcell b1).2
  have z1 := b1.size
  simp only [World.size_alloc] at own1 c1 f1 z1
  go_wp2_with fail
  have u1 := own_other own1 (only_setCell (World.grownBy.refl w1 (some (w.heap.size + 1 + 1))) (p := ⟨w.heap.size + 1 + 1, 4, none⟩) (.inl rfl) (.slice (some ⟨w.heap.size + 1 + 1 + 1, 0, none⟩) n n)) (by simp [Value.ownBlock] <;> omega)
  have u2 := own_other u1 (only_setCell (only_setCell (only_setCell (only_setCell (only_setCell (World.grownBy.refl _ (some (w.heap.size + 1))) (p := ⟨w.heap.size + 1, 0, none⟩) (.inl rfl) (.int .i64 f)) (p := ⟨w.heap.size + 1, 1, none⟩) (.inl rfl) (.int .i64 t)) (p := ⟨w.heap.size + 1, 2, none⟩) (.inl rfl) (.int .i64 k)) (p := ⟨w.heap.size + 1, 3, none⟩) (.inl rfl) (.int .i64 l)) (p := ⟨w.heap.size + 1, 4, none⟩) (.inl rfl) (.slice (some ⟨w.heap.size + 1 + 1 + 1, 0, none⟩) n n)) (by simp [Value.ownBlock] <;> omega)
  have e1 := ((Below.refl w.heap.size w).alloc (Nat.le_refl _) (.cells #[.int .i64 f, .int .i64 t, .int .i64 k, .int .i64 l, .slice A n c] 24))
  have e2 := (e1.alloc (by simp) (.cells #[.int .i64 0, .int .i64 0, .int .i64 0, .int .i64 0, .slice none 0 0] 27))
  have e3 := (e2.alloc (by simp; omega) (.cells #[.int .i64 f, .int .i64 t, .int .i64 k, .int .i64 l, .slice none 0 0] 27)).trans (b1.mono (by simp; omega))
  have e4 := (((((e3.setCell (p := ⟨w.heap.size + 1 + 1, 4, none⟩) (by show w.heap.size ≤ w.heap.size + 1 + 1; omega) (.slice (some ⟨w.heap.size + 1 + 1 + 1, 0, none⟩) n n)).setCell (p := ⟨w.heap.size + 1, 0, none⟩) (Nat.le_succ _) (.int .i64 f)).setCell (p := ⟨w.heap.size + 1, 1, none⟩) (Nat.le_succ _) (.int .i64 t)).setCell (p := ⟨w.heap.size + 1, 2, none⟩) (Nat.le_succ _) (.int .i64 k)).setCell (p := ⟨w.heap.size + 1, 3, none⟩) (Nat.le_succ _) (.int .i64 l)).setCell (p := ⟨w.heap.size + 1, 4, none⟩) (Nat.le_succ _) (.slice (some ⟨w.heap.size + 1 + 1 + 1, 0, none⟩) n n)
  have k0 := ((Blk.new (w.alloc (.cells #[.int .i64 f, .int .i64 t, .int .i64 k, .int .i64 l, .slice A n c] 24)) 27 #[.int .i64 0, .int .i64 0, .int .i64 0, .int .i64 0, .slice none 0 0]).alloc (.cells #[.int .i64 f, .int .i64 t, .int .i64 k, .int .i64 l, .slice none 0 0] 27)).below b1 (by simp)
  simp only [World.size_alloc] at k0
  have k1 := (((((k0.far (p := ⟨w.heap.size + 1 + 1, 4, none⟩) (by show w.heap.size + 1 ≠ w.heap.size + 1 + 1; omega) (.slice (some ⟨w.heap.size + 1 + 1 + 1, 0, none⟩) n n)).set_ 0 (.int .i64 f)).set_ 1 (.int .i64 t)).set_ 2 (.int .i64 k)).set_ 3 (.int .i64 l)).set_ 4 (.slice (some ⟨w.heap.size + 1 + 1 + 1, 0, none⟩) n n)
  clear e1 e2 e3 k0 u1 own1 c1 f1 b1
  generalize hW : (World.setCell (World.setCell (World.setCell (World.setCell (World.setCell (w1.setCell ⟨w.heap.size + 1 + 1, 4, none⟩ (.slice (some ⟨w.heap.size + 1 + 1 + 1, 0, none⟩) n n)) ⟨w.heap.size + 1, 0, none⟩ (.int .i64 f)) ⟨w.heap.size + 1, 1, none⟩ (.int .i64 t)) ⟨w.heap.size + 1, 2, none⟩ (.int .i64 k)) ⟨w.heap.size + 1, 3, none⟩ (.int .i64 l)) ⟨w.heap.size + 1, 4, none⟩ (.slice (some ⟨w.heap.size + 1 + 1 + 1, 0, none⟩) n n)) = W5 at u2 e4 k1 ⊢
  clear hW
  have x0 : W5.cell? ⟨w.heap.size + 1, 0, none⟩ = some (.int .i64 f) := by rw [k1.cell]; rfl
  have x1 : W5.cell? ⟨w.heap.size + 1, 1, none⟩ = some (.int .i64 t) := by rw [k1.cell]; rfl
  have x2 : W5.cell? ⟨w.heap.size + 1, 2, none⟩ = some (.int .i64 k) := by rw [k1.cell]; rfl
  have x3 : W5.cell? ⟨w.heap.size + 1, 3, none⟩ = some (.int .i64 l) := by rw [k1.cell]; rfl
  have x4 : W5.cell? ⟨w.heap.size + 1, 4, none⟩ = some (.slice (some ⟨w.heap.size + 1 + 1 + 1, 0, none⟩) n n) := by rw [k1.cell]; rfl
  refine bodyPost_ret (v := .agg #[.int .i64 f, .int .i64 t, .int .i64 k, .int .i64 l, .slice (some ⟨w.heap.size + 1 + 1 + 1, 0, none⟩) n n]) ?_ rfl ⟨rfl, u2, e4⟩
  simp [results, Try.results14, go_sem, x0, x1, x2, x3, x4]
end Go.Proofs.Ytleammkpfknngaa
