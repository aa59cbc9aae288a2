/-
  samePieces of the laws.
-/
import Derived.Test.YtljbkppeoedcjaaSameB
import Derived.Test.YtljbkppeoedcjaaPcsC
namespace Go.Proofs.Ytljbkppeoedcjaa
open Go.RowKit
set_option linter.unusedVariables false
attribute [local go_sem ↓] Go.wp_at_zero Go.wp_at_succ

set_option maxHeartbeats 3200000 in
theorem samePieces_yes (A A' : Option Addr) (n c c' : Nat) (ps qs : List Pv) (w : World) {lo hi lo' hi' : Nat} (hS : Pcs w lo hi A n ps) (hS' : Pcs w lo' hi' A' n qs) (hpc : ps.map Pv.pc = qs.map Pv.pc) (hhi : hi ≤ w.heap.size) (hhi' : hi' ≤ w.heap.size) (hn : n ≤ 1048576) (hN : sumN ps ≤ 1048576) :
    Calls Try.prog 16 #[.slice A n c, .slice A' n c'] w fun e w' => e = .returned (.bool true) ∧ Below w.heap.size w w' := by
  have HL := Lib.hid hS.len
  have HPC := Lib.hid hpc
  clear hpc
  go_enter Try.func16, Try.ntmps16
  go_wp2
  go_loopw [5] (fun i wr => ∃ k : Nat, k ≤ n ∧ i = .int .i64 k ∧ Below w.heap.size w wr) (fun i _ => n - (intOf i).toNat)
  case atStart => exact ⟨0, Nat.zero_le _, rfl, Below.refl _ _⟩
  case round =>
    obtain ⟨k, hk, rfl, hb⟩ := hrel
    by_cases hlt : k < n
    · obtain ⟨b, off, rfl, _, hbh, c0, c1, c2, hs1, _, _, _⟩ := (hS.below hb hhi).piece hlt
      obtain ⟨b', off', rfl, _, hbh', c0', c1', c2', hs2, _, _, _⟩ := (hS'.below hb hhi').piece hlt
      have hpn : (pAt ps k).n ≤ 1048576 := Nat.le_trans (sumN_le (pAt_mem (by rw [HL.out]; exact hlt))) hN
      have hpc := pc_at HPC.out k
      obtain ⟨⟨a, mo, B, m, mc, zs⟩, hp⟩ : ∃ p, pAt ps k = p := ⟨_, rfl⟩
      obtain ⟨⟨a', mo', B', m', mc', zs'⟩, hp'⟩ : ∃ p, pAt qs k = p := ⟨_, rfl⟩
      rw [hp] at c0 c1 c2 hs1 hpn hpc
      rw [hp'] at c0' c1' c2' hs2 hpc
      clear hp hp'
      simp only [Pv.pc, Pc.mk.injEq] at hpc
      simp only at c0 c1 c2 c0' c1' c2' hs1 hs2 hpn
      obtain ⟨rfl, rfl, rfl⟩ := hpc
      obtain rfl : m = m' := hs1.len.symm.trans hs2.len
      have hki : (0 : Int) ≤ (k : Int) := by omega
      have hki2 : (k : Int) < (n : Int) := by omega
      have hh1 : hi ≤ wr.heap.size := Nat.le_trans hhi hb.size
      have hh2 : hi' ≤ wr.heap.size := Nat.le_trans hhi' hb.size
      have e1 : ((a : Int) != a) = false := by simp
      have e2 : (mo != mo) = false := by cases mo <;> rfl
      go_wp2
      go_region_held3 (fun w' => w'.cell? ⟨b, off + k * 3, none⟩ = some (.int .i64 a) ∧ w'.cell? ⟨b, off + k * 3 + 1, none⟩ = some (.bool mo) ∧ w'.cell? ⟨b, off + k * 3 + 2, none⟩ = some (.slice B m mc) ∧ w'.cell? ⟨b', off' + k * 3, none⟩ = some (.int .i64 a) ∧ w'.cell? ⟨b', off' + k * 3 + 1, none⟩ = some (.bool mo) ∧ w'.cell? ⟨b', off' + k * 3 + 2, none⟩ = some (.slice B' m mc')) (first | go_keep | trivial) ((first | (go_at_call 19; refine (sameBytes_any _ _ _ _ _ _ zs zs _ (Sl.drew hs1) (Sl.drew hs2) hpn hpn).mono ?_; rw [show (zs == zs) = true from by simp]; rintro e w1 ⟨rfl, hb1⟩; have zz := hb.size; have q0 := hb1.cell (p := ⟨b, off + k * 3, none⟩) (by simp; omega); have q1 := hb1.cell (p := ⟨b, off + k * 3 + 1, none⟩) (by simp; omega); have q2 := hb1.cell (p := ⟨b, off + k * 3 + 2, none⟩) (by simp; omega); have r0 := hb1.cell (p := ⟨b', off' + k * 3, none⟩) (by simp; omega); have r1 := hb1.cell (p := ⟨b', off' + k * 3 + 1, none⟩) (by simp; omega); have r2 := hb1.cell (p := ⟨b', off' + k * 3 + 2, none⟩) (by simp; omega))))
      all_goals
        go_wp2
        go_roundw
        case rel => exact ⟨k + 1, by omega, by go_num, hb.drew.trans (hb1.mono hb.size)⟩
        case measure => simp [intOf]; omega
    · obtain rfl : n = k := by omega
      go_wp2
      go_ret
      exact ⟨rfl, hb⟩
end Go.Proofs.Ytljbkppeoedcjaa
