/-
  JoinPieces of spec.
-/
import Derived.Test.YtljbkppeoedcjaaJoinI
import Derived.Deep.QuietTactic
namespace Go.Proofs.Ytljbkppeoedcjaa
open Go.RowKit
set_option linter.unusedVariables false

def pEnd (p : Pc) : Nat := p.at_.toNat + p.body.length
/-- Where the pieces without more end, if there are any. -/
def SpecT (T : Int) (l : List Pc) : Prop := (T = -1 ∧ ∀ p ∈ l, p.more = true) ∨ (0 ≤ T ∧ T ≤ 80 ∧ (∃ p ∈ l, p.more = false ∧ (pEnd p : Int) = T) ∧ ∀ p ∈ l, p.more = false → (pEnd p : Int) = T)
theorem SpecT.bd {T : Int} {l : List Pc} (h : SpecT T l) : -1 ≤ T ∧ T ≤ 80 := by rcases h with h | h <;> omega
theorem SpecT.more_ {T : Int} {l : List Pc} {p : Pc} (h : SpecT T l) (hp : p.more = true) : SpecT T (l ++ [p]) := by
  rcases h with ⟨h1, h2⟩ | ⟨h1, h2, ⟨q, hq, hq1, hq2⟩, h4⟩
  · left
    refine ⟨h1, fun q hq => ?_⟩
    rcases List.mem_append.1 hq with hq | hq
    · exact h2 q hq
    · simp at hq; subst hq; exact hp
  · right
    refine ⟨h1, h2, ⟨q, by simp [hq], hq1, hq2⟩, fun q hq hm => ?_⟩
    rcases List.mem_append.1 hq with hq | hq
    · exact h4 q hq hm
    · simp at hq; subst hq; rw [hp] at hm; cases hm
theorem SpecT.last {T : Int} {l : List Pc} {p : Pc} (h : SpecT T l) (hp : p.more = false) (he : pEnd p ≤ 80) (hT : T = -1 ∨ T = (pEnd p : Int)) : SpecT (pEnd p : Int) (l ++ [p]) := by
  right
  refine ⟨by omega, by omega, ⟨p, by simp, hp, rfl⟩, fun q hq hm => ?_⟩
  rcases List.mem_append.1 hq with hq | hq
  · rcases h with ⟨h1, h2⟩ | ⟨h1, h2, _, h4⟩
    · rw [h2 q hq] at hm; cases hm
    · have := h4 q hq hm
      omega
  · simp at hq; subst hq; rfl
theorem mored_end {L : Nat} {cs : List Pc} {p : Pc} (h : cs.all (mored L) = true) (hp : p ∈ cs) (hm : p.more = false) : pEnd p = L := by
  have := mored_iff.1 (List.all_eq_true.1 h p hp)
  rw [hm] at this
  unfold pEnd
  rcases Nat.decEq (p.at_.toNat + p.body.length) L with h | h
  · exact absurd (this.2 h) (by simp)
  · exact h
theorem SpecT.two {T : Int} {cs l : List Pc} {p : Pc} (h : SpecT T l) (hl : ∀ q ∈ l, q ∈ cs) (hp : p ∈ cs) (hm : p.more = false) (h0 : 0 ≤ T) (hT : T ≠ (pEnd p : Int)) : joinP cs = none := by
  refine joinP_mored (Bool.eq_false_iff.2 fun ha => ?_)
  rcases h with ⟨h1, _⟩ | ⟨_, _, ⟨q, hq, hq1, hq2⟩, _⟩
  · omega
  · have e1 := mored_end ha hp hm
    have e2 := mored_end ha (hl q hq) hq1
    omega
theorem SpecT.no {T : Int} {cs : List Pc} (h : SpecT T cs) (hf : cs.all fits = true) (h0 : T < 0) : joinP cs = none := by
  rcases h with ⟨_, h2⟩ | ⟨h1, _⟩
  · by_cases hc : 1 ≤ cs.length
    · obtain ⟨p, hp, e⟩ := ends_at hc hf
      refine joinP_mored (all_false hp (Bool.eq_false_iff.2 fun ha => ?_))
      exact (mored_iff.1 ha).1 (h2 p hp) e
    · exact joinP_count (fun hh => hc hh.1)
  · omega
/-- If the pieces fit, all end where those without more end. -/
theorem SpecT.ends {m : Nat} {cs : List Pc} (h : SpecT (m : Int) cs) (ha : cs.all (mored (Go.Proofs.Ytljbkppeoedcjaa.ends cs)) = true) : Go.Proofs.Ytljbkppeoedcjaa.ends cs = m := by
  rcases h with ⟨h1, _⟩ | ⟨_, _, ⟨q, hq, hq1, hq2⟩, _⟩
  · omega
  · have := mored_end ha hq hq1
    omega
theorem SpecT.if_ {m : Nat} {cs : List Pc} (h : SpecT (m : Int) cs) (hk : Go.Proofs.Ytljbkppeoedcjaa.ends cs = m → joinP cs = none) : joinP cs = none := by
  by_cases ha : cs.all (mored (Go.Proofs.Ytljbkppeoedcjaa.ends cs)) = true
  · exact hk (h.ends ha)
  · exact joinP_mored (Bool.eq_false_iff.2 ha)
def okS (m : Nat) (p : Pc) : Bool := decide (pEnd p ≤ m) && !(p.more && decide (pEnd p = m))
theorem okS_iff {m : Nat} {p : Pc} : okS m p = true ↔ pEnd p ≤ m ∧ (p.more = true → pEnd p ≠ m) := by
  unfold okS
  cases hm : p.more <;> simp
theorem SpecT.bad {m : Nat} {cs : List Pc} {p : Pc} (h : SpecT (m : Int) cs) (hp : p ∈ cs) (hb : okS m p = false) : joinP cs = none := by
  by_cases ha : cs.all (mored (Go.Proofs.Ytljbkppeoedcjaa.ends cs)) = true
  · exfalso
    have e := h.ends ha
    rw [e] at ha
    rw [Bool.eq_false_iff] at hb
    refine hb (okS_iff.2 ⟨?_, fun hm => ?_⟩)
    · rw [← e]; exact (ends_ge cs 0).2 p hp
    · exact (mored_iff.1 (List.all_eq_true.1 ha p hp)).1 hm
  · exact joinP_mored (Bool.eq_false_iff.2 ha)
theorem SpecT.all_ {m : Nat} {cs : List Pc} (h : SpecT (m : Int) cs) (hok : cs.all (okS m) = true) : Go.Proofs.Ytljbkppeoedcjaa.ends cs = m ∧ cs.all (mored m) = true := by
  rcases h with ⟨h1, _⟩ | ⟨_, _, ⟨q, hq, hq1, hq2⟩, h4⟩
  · omega
  · have he : Go.Proofs.Ytljbkppeoedcjaa.ends cs = m := by
      apply Nat.le_antisymm
      · exact ends_le cs 0 m (Nat.zero_le _) fun p hp => (okS_iff.1 (List.all_eq_true.1 hok p hp)).1
      · have := (ends_ge cs 0).2 q hq
        have e : pEnd q = m := by omega
        unfold pEnd at e
        unfold Go.Proofs.Ytljbkppeoedcjaa.ends
        omega
    refine ⟨he, List.all_eq_true.2 fun p hp => mored_iff.2 ⟨(okS_iff.1 (List.all_eq_true.1 hok p hp)).2, fun hne => ?_⟩⟩
    cases hm : p.more with
    | true => rfl
    | false =>
      have := h4 p hp hm
      unfold pEnd at this
      omega
theorem RetJoin.noE {W w' : World} {r : Option (List Int)} {H : Nat} (h : r = none) (hb : Below W.heap.size W w') (hH : w'.heap.size = H) : RetJoin W r (.returned (.tuple #[.slice (some ⟨H, 0, none⟩) 0 0, .bool false])) (w'.alloc (.cells #[] 5)) := by
  subst h hH
  exact ⟨_, 0, 0, rfl, rfl, World.ownsRow_lit (base := W.heap.size) (e := 5) (size := 1) w' #[] 0 hb.size (by unfold maxLen; omega) (by simp), hb.alloc hb.size _⟩

set_option maxRecDepth 100000 in
set_option maxHeartbeats 6400000 in
theorem sJoinPieces_any (A : Option Addr) (n c : Nat) (ps : List Pv) (w : World) {lo hi : Nat} (hS : Pcs w lo hi A n ps) (hhi : hi ≤ w.heap.size) (h64 : ∀ p ∈ ps, -9223372036854775808 ≤ p.at_ ∧ p.at_ ≤ 9223372036854775807) (hnm : n ≤ maxLen) (hN : sumN ps ≤ 1048576) :
    Calls Try.prog 21 #[.slice A n c] w (RetJoin w (joinP (ps.map Pv.pc))) := by
  unfold maxLen at hnm
  have HL := Lib.hid hS.len
  have hcp : ∀ k, k < n → pcAt (ps.map Pv.pc) k = (pAt ps k).pc := fun k hk => pcAt_map (by rw [HL.out]; exact hk)
  have hcl : (ps.map Pv.pc).length = n := by simp [HL.out]
  generalize ps.map Pv.pc = cs at hcp hcl ⊢
  have HCP := Lib.hid hcp
  have HCL := Lib.hid hcl
  clear hcp hcl
  go_enter Try.func21, Try.ntmps21
  go_wp2_with fail
  go_loopw [4, 5] (fun T i wr => ∃ (k : Nat) (t : Int), k ≤ n ∧ i = .int .i64 k ∧ T = .int .i64 t ∧ -1 ≤ t ∧ t ≤ 80 ∧ (k = 0 ∨ n ≤ 80) ∧ Hid (SpecT t (cs.take k)) ∧ Hid ((cs.take k).all fits = true) ∧ Below w.heap.size w wr) (fun _ i _ => n - (intOf i).toNat)
  case atStart => exact ⟨0, -1, Nat.zero_le _, rfl, rfl, by omega, by omega, .inl rfl, Lib.hid (.inl ⟨rfl, fun p hp => absurd hp (by simp)⟩), Lib.hid rfl, Below.refl _ _⟩
  case round =>
    obtain ⟨k, t, hk, rfl, rfl, ht1, ht2, hkn, HT, HF, hb⟩ := hrel
    by_cases hlt : k < n
    · obtain ⟨b, off, rfl, _, _, c0, c1, c2, hsl, hbc, hbm, _⟩ := (hS.below hb hhi).piece hlt
      have hpc := HCP.out k hlt
      have h6 := h64 _ (pAt_mem (ps := ps) (k := k) (by rw [HL.out]; exact hlt))
      have hkc : k < cs.length := by rw [HCL.out]; exact hlt
      have hbs : (pAt ps k).n ≤ 1048576 := Nat.le_trans (sumN_le (pAt_mem (by rw [HL.out]; exact hlt))) hN
      obtain ⟨⟨a, mo, B, bm, mc, zs⟩, hp⟩ : ∃ p, pAt ps k = p := ⟨_, rfl⟩
      rw [hp] at c0 c1 c2 hsl hbc hbm hpc h6 hbs
      clear hp
      simp only at c0 c1 c2 hsl hbc hbm h6 hbs
      have hzl := hsl.len
      simp only [Pv.pc] at hpc
      unfold maxLen at hbm
      have hmem := pcAt_mem hkc
      by_cases hfit : 0 ≤ a ∧ a + (bm : Int) ≤ 80
      · have hin : inB a 0 80 = true := inB_true (by omega)
        have e3 : decide ((80 : Int) < a + (bm : Int)) = false := decide_eq_false (by omega)
        have hfa : 0 ≤ a := hfit.1
        have hfb : a + (bm : Int) ≤ 80 := hfit.2
        have hft : fits (pcAt cs k) = true := fits_yes (by rw [hpc]; simp only; rw [hzl]; exact hfit)
        have HALL := Lib.hid (all_take_succ HF.out (get_pc hkc) hft)
        by_cases hn80 : (80 : Int) < (n : Int)
        · have e4 : decide ((80 : Int) < (n : Int)) = true := decide_eq_true hn80
          have HJ := Lib.hid (joinP_count (ps := cs) (by rw [HCL.out]; omega))
          clear hft hpc hzl hmem
          go_wp2_with (go_at_call 25; refine (l1In_any _ _ _ _).mono ?_; rw [hin]; rintro e w' ⟨rfl, rfl⟩)
          go_ret2
          exact RetJoin.noE HJ.out (hb.alloc hb.size _) (by simp)
        · obtain ⟨an, rfl⟩ : ∃ an : Nat, a = (an : Int) := ⟨a.toNat, by omega⟩
          have e4 : decide ((80 : Int) < (n : Int)) = false := decide_eq_false hn80
          have hpe : pEnd (pcAt cs k) = an + bm := by rw [hpc]; simp only [pEnd, Int.toNat_natCast]; rw [hzl]
          have hmo : (pcAt cs k).more = mo := by rw [hpc]
          have htk := take_succ_pc hkc
          have hsub : ∀ q ∈ cs.take k, q ∈ cs := fun q hq => List.mem_of_mem_take hq
          cases mo with
          | true =>
            have HT2 := Lib.hid (HT.out.more_ hmo)
            rw [← htk] at HT2
            clear hft hpc hzl hmem hpe hmo htk hsub
            go_wp2_with (go_at_call 25; refine (l1In_any _ _ _ _).mono ?_; rw [hin]; rintro e w' ⟨rfl, rfl⟩)
            go_roundw
            case rel => exact ⟨k + 1, t, by omega, by go_num, rfl, by omega, by omega, by omega, HT2, HALL, hb.alloc hb.size _⟩
            case measure => simp [intOf]; omega
          | false =>
            by_cases ht0 : 0 ≤ t
            · have e5 : decide ((0 : Int) ≤ t) = true := decide_eq_true ht0
              by_cases hte : t = (an : Int) + (bm : Int)
              · have HT2 := Lib.hid (HT.out.last hmo (by omega) (.inr (by omega)))
                rw [← htk, hpe] at HT2
                have hss : ((an : Int) + (bm : Int) != (an : Int) + (bm : Int)) = false := by simp
                subst hte
                clear hft hpc hzl hmem hpe hmo htk hsub
                go_wp2_with (go_at_call 25; refine (l1In_any _ _ _ _).mono ?_; rw [hin]; rintro e w' ⟨rfl, rfl⟩)
                go_roundw
                case rel => exact ⟨k + 1, ((an + bm : Nat) : Int), by omega, by go_num, by go_num, by omega, by omega, by omega, HT2, HALL, hb.alloc hb.size _⟩
                case measure => simp [intOf]; omega
              · have HJ := Lib.hid (HT.out.two hsub hmem hmo ht0 (by omega))
                have hne : ((t : Int) != (an : Int) + (bm : Int)) = true := by simpa using hte
                clear hft hpc hzl hmem hpe hmo htk hsub
                go_wp2_with (go_at_call 25; refine (l1In_any _ _ _ _).mono ?_; rw [hin]; rintro e w' ⟨rfl, rfl⟩)
                go_ret2
                exact RetJoin.noE HJ.out (hb.alloc hb.size _) (by simp)
            · have e5 : decide ((0 : Int) ≤ t) = false := decide_eq_false ht0
              have HT2 := Lib.hid (HT.out.last hmo (by omega) (.inl (by omega)))
              rw [← htk, hpe] at HT2
              clear hft hpc hzl hmem hpe hmo htk hsub
              go_wp2_with (go_at_call 25; refine (l1In_any _ _ _ _).mono ?_; rw [hin]; rintro e w' ⟨rfl, rfl⟩)
              go_roundw
              case rel => exact ⟨k + 1, ((an + bm : Nat) : Int), by omega, by go_num, by go_num, by omega, by omega, by omega, HT2, HALL, hb.alloc hb.size _⟩
              case measure => simp [intOf]; omega
      · have hft : fits (pcAt cs k) = false := fits_no (by rw [hpc]; simp only; rw [hzl]; exact hfit)
        have HJ := Lib.hid (joinP_fits (all_false hmem hft))
        clear hft hpc hzl hmem
        by_cases e1 : 0 ≤ a ∧ a ≤ 80
        · have hin : inB a 0 80 = true := inB_true e1
          have e3 : decide ((80 : Int) < a + (bm : Int)) = true := decide_eq_true (by omega)
          have e1a := e1.1
          have e1b := e1.2
          go_wp2_with (go_at_call 25; refine (l1In_any _ _ _ _).mono ?_; rw [hin]; rintro e w' ⟨rfl, rfl⟩)
          go_ret2
          exact RetJoin.noE HJ.out (hb.alloc hb.size _) (by simp)
        · have hin : inB a 0 80 = false := inB_false e1
          go_wp2_with (go_at_call 25; refine (l1In_any _ _ _ _).mono ?_; rw [hin]; rintro e w' ⟨rfl, rfl⟩)
          go_ret2
          exact RetJoin.noE HJ.out (hb.alloc hb.size _) (by simp)
    · obtain rfl : n = k := by omega
      rw [take_all HCL.out] at HT HF
      by_cases ht0 : 0 ≤ t
      · obtain ⟨m, rfl⟩ : ∃ m : Nat, t = (m : Int) := ⟨t.toNat, by omega⟩
        have hm : m ≤ 80 := by omega
        have hmkB : ∀ W : World, (Instr.makeSlice 22 (.int .i64 (m : Int)) (.int .i64 (m : Int))).run Try.prog W = .ok (.slice (some ⟨W.heap.size, 0, none⟩) m m) (W.alloc (.cells (madeCells #[.int .u8 0] m) 5)) := fun W =>
          run_make_row' (P := Try.prog) 22 5 (.int .u8 0) 1 Try.underlying22 infoByte rfl .i64 .i64 m (by omega) (by omega) W
        have hmkF : ∀ W : World, (Instr.makeSlice 55 (.int .i64 (m : Int)) (.int .i64 (m : Int))).run Try.prog W = .ok (.slice (some ⟨W.heap.size, 0, none⟩) m m) (W.alloc (.cells (madeCells #[.bool false] m) 4)) := fun W =>
          run_make_row' (P := Try.prog) 55 4 (.bool false) 1 Try.underlying55 infoBool rfl .i64 .i64 m (by omega) (by omega) W
        have hzb := hb.size
        have o1 := (own_made wr (.int .u8 0) 5 m (by unfold maxLen; omega)).alloc (.cells (madeCells #[.bool false] m) 4)
        have o2 := own_made (wr.alloc (.cells (madeCells #[.int .u8 0] m) 5)) (.bool false) 4 m (by unfold maxLen; omega)
        simp only [World.size_alloc] at o2
        have d2 := (hb.alloc hb.size (.cells (madeCells #[.int .u8 0] m) 5)).alloc (by simp; omega) (.cells (madeCells #[.bool false] m) 4)
        rw [← outL_none] at o1
        rw [← hasL_none] at o2
        have hfill : Hid (fillPs (List.replicate m none) cs = none → joinP cs = none) := Lib.hid fun h => HT.out.if_ fun he => joinP_fill (by rw [he]; exact h)
        go_wp2_with fail
        obtain ⟨g1, hg1⟩ : ∃ g, wr.heap.size = g := ⟨_, rfl⟩
        generalize hw2 : (wr.alloc (.cells (madeCells #[.int .u8 0] m) 5)).alloc (.cells (madeCells #[.bool false] m) 4) = w2 at o1 o2 d2 ⊢
        have hz2 : w2.heap.size = wr.heap.size + 1 + 1 := by rw [← hw2]; simp
        rw [hg1] at o1 o2 hz2 hzb ⊢
        clear hw2 hg1 hmkB hmkF hb
        go_loopw [9] (fun i wr => ∃ (k : Nat) (st : List (Option Int)), k ≤ n ∧ i = .int .i64 k ∧ st.length = m ∧ Hid (fillPs (List.replicate m none) (cs.take k) = some st) ∧ Hid ((cs.take k).all (okS m) = true) ∧ Hid (ByteO st) ∧ wr.ownsRow g1 5 1 (.slice (some ⟨g1, 0, none⟩) m m) m (outL st) ∧ wr.ownsRow (g1 + 1) 4 1 (.slice (some ⟨g1 + 1, 0, none⟩) m m) m (hasL st) ∧ g1 + 1 + 1 ≤ wr.heap.size ∧ Below w.heap.size w wr) (fun i _ => n - (intOf i).toNat)
        case atStart => exact ⟨0, _, Nat.zero_le _, rfl, by simp, Lib.hid rfl, Lib.hid rfl, Lib.hid (ByteO.none_ _), o1, o2, by omega, d2⟩
        case round =>
          obtain ⟨k, st, hk, rfl, hsl, HFI, HMO, HBY, o1, o2, hz, hb⟩ := hrel
          by_cases hlt : k < n
          · obtain ⟨b, off, rfl, _, _, c0, c1, c2, hsb, hbc, hbm, hby⟩ := (hS.below hb hhi).piece hlt
            have hpc := HCP.out k hlt
            have hkc : k < cs.length := by rw [HCL.out]; exact hlt
            have hfk := List.all_eq_true.1 HF.out _ (pcAt_mem hkc)
            have hbs : (pAt ps k).n ≤ 1048576 := Nat.le_trans (sumN_le (pAt_mem (by rw [HL.out]; exact hlt))) hN
            have hmem := pcAt_mem hkc
            obtain ⟨⟨a, mo, B, bm, mc, zs⟩, hp⟩ : ∃ p, pAt ps k = p := ⟨_, rfl⟩
            rw [hp] at c0 c1 c2 hsb hbc hbm hby hpc hbs
            clear hp
            simp only at c0 c1 c2 hsb hbc hbm hby hbs
            have hzl := hsb.len
            simp only [Pv.pc] at hpc
            rw [hpc] at hfk
            simp only [fits, Bool.and_eq_true, decide_eq_true_eq] at hfk
            rw [hzl] at hfk
            obtain ⟨an, rfl⟩ : ∃ an : Nat, a = (an : Int) := ⟨a.toNat, by omega⟩
            have hpe : pEnd (pcAt cs k) = an + bm := by rw [hpc]; simp only [pEnd, Int.toNat_natCast]; rw [hzl]
            have hpm : (pcAt cs k).more = mo := by rw [hpc]
            have hoks := okS_iff (m := m) (p := pcAt cs k)
            rw [hpe, hpm] at hoks
            have hfk1 := hfk.2
            have HPC := Lib.hid hpc
            have HZL := Lib.hid hzl
            have hS0 : Hid (Sl wr lo hi 1 B bm (zs.map (Value.int .u8))) := Lib.hid hsb
            have HBYZ := Lib.hid hby
            clear hpc hzl hsb hby hpe hpm hfk
            by_cases e6 : an + bm ≤ m
            · have e6b : decide ((m : Int) < (an : Int) + (bm : Int)) = false := decide_eq_false (by omega)
              cases mo with
              | true =>
                by_cases e7 : an + bm = m
                · have HB := Lib.hid (HT.out.bad hmem (Bool.eq_false_iff.2 fun h => (hoks.1 h).2 rfl e7))
                  have e7b : ((an : Int) + (bm : Int) == (m : Int)) = true := by simp; omega
                  clear hoks hmem
                  go_wp2_with fail
                  go_ret2
                  exact RetJoin.noE HB.out (hb.alloc hb.size _) (by simp)
                · have e7b : ((an : Int) + (bm : Int) == (m : Int)) = false := by simp; omega
                  have HMT := Lib.hid (all_take_succ HMO.out (get_pc hkc) (hoks.2 ⟨e6, fun _ => e7⟩))
                  clear hoks hmem
                  go_wp2_with fail
                  have hbq := hb.alloc hb.size (.cells #[.int .i64 (an : Int), .bool true, .slice B bm mc] 35)
                  have KQ := Blk.new wr 35 #[.int .i64 (an : Int), .bool true, .slice B bm mc]
                  have o1q := o1.alloc (.cells #[.int .i64 (an : Int), .bool true, .slice B bm mc] 35)
                  have o2q := o2.alloc (.cells #[.int .i64 (an : Int), .bool true, .slice B bm mc] 35)
                  have hzq : (wr.alloc (.cells #[.int .i64 (an : Int), .bool true, .slice B bm mc] 35)).heap.size = wr.heap.size + 1 := by simp
                  have hsq : Sl (wr.alloc (.cells #[.int .i64 (an : Int), .bool true, .slice B bm mc] 35)) lo hi 1 B bm (zs.map (Value.int .u8)) := hS0.out.alloc (by have := hb.size; omega) _
                  generalize wr.alloc (.cells #[.int .i64 (an : Int), .bool true, .slice B bm mc] 35) = wq at hbq KQ o1q o2q hzq hsq ⊢
                  obtain ⟨q, hqe⟩ : ∃ q, wr.heap.size = q := ⟨_, rfl⟩
                  rw [hqe] at KQ hzq hz ⊢
                  have hqw : w.heap.size ≤ q := by rw [← hqe]; exact hb.size
                  have HSQ := Lib.hid hsq
                  clear hqe o1 o2 hb hsq hS0
                  go_loopw [11] (fun j wr => ∃ (jn : Nat) (st' : List (Option Int)), jn ≤ bm ∧ j = .int .i64 jn ∧ st'.length = m ∧ Hid (fillB st an (zs.take jn) = some st') ∧ Hid (ByteO st') ∧ wr.ownsRow g1 5 1 (.slice (some ⟨g1, 0, none⟩) m m) m (outL st') ∧ wr.ownsRow (g1 + 1) 4 1 (.slice (some ⟨g1 + 1, 0, none⟩) m m) m (hasL st') ∧ Blk wr q 35 #[.int .i64 (an : Int), .bool true, .slice B bm mc] ∧ Hid (Sl wr lo hi 1 B bm (zs.map (Value.int .u8))) ∧ q + 1 ≤ wr.heap.size ∧ Below w.heap.size w wr) (fun j _ => bm - (intOf j).toNat)
                  case atStart => exact ⟨0, st, Nat.zero_le _, rfl, hsl, Lib.hid rfl, HBY, o1q, o2q, KQ, HSQ, by omega, hbq⟩
                  case round =>
                    obtain ⟨jn, st', hjn, rfl, hsl', HFB, HBY', o1, o2, KQ, HSQ, hzr, hb⟩ := hrel
                    obtain ⟨p0, p1, p2, _⟩ := KQ.tri
                    by_cases hjl : jn < bm
                    · obtain ⟨bb, boff, rfl, _, hbb, bc, _⟩ := HSQ.out.Byte hjl
                      have hxb := HBYZ.out.at_ jn
                      have hfs := fillB_step HFB.out (by rw [HZL.out]; exact hjl)
                      have hfn := fun hn => fillB_none HFB.out (by rw [HZL.out]; exact hjl) hn
                      obtain ⟨x, hxe⟩ : ∃ x, zs[jn]?.getD 0 = x := ⟨_, rfl⟩
                      rw [hxe] at bc hxb hfs hfn
                      clear hxe
                      have him : an + jn < m := by omega
                      have hi0 : (0 : Int) ≤ (an : Int) + (jn : Int) := by omega
                      have hi1 : (an : Int) + (jn : Int) < (m : Int) := by omega
                      have htn : ((an : Int) + (jn : Int)).toNat = an + jn := by omega
                      have hso : st'[an + jn]? = some (st'[an + jn]'(by omega)) := List.getElem?_eq_getElem (by omega)
                      generalize st'[an + jn]'(by omega) = o at hso
                      obtain ⟨ho1, ho2⟩ := outL_at hso
                      have oc := (o1.cellAt (an + jn) (by omega)).trans ho1
                      have hc := (o2.cellAt (an + jn) (by omega)).trans ho2
                      have of := o1.frozenAt (an + jn)
                      have hf := o2.frozenAt (an + jn)
                      have og := (o1.lt g1 rfl).2
                      have hg := (o2.lt (g1 + 1) rfl).2
                      clear ho1 ho2
                      have KB : ∀ u v, Blk ((wr.setCell ⟨g1, an + jn, none⟩ u).setCell ⟨g1 + 1, an + jn, none⟩ v) q 35 #[.int .i64 (an : Int), .bool true, .slice (some ⟨bb, boff, none⟩) bm mc] := fun u v => (KQ.far (p := ⟨g1, an + jn, none⟩) (show q ≠ g1 by omega) u).far (p := ⟨g1 + 1, an + jn, none⟩) (show q ≠ g1 + 1 by omega) v
                      have HKB := Lib.hid KB
                      have hSS : Hid (∀ u v, Sl ((wr.setCell ⟨g1, an + jn, none⟩ u).setCell ⟨g1 + 1, an + jn, none⟩ v) lo hi 1 (some ⟨bb, boff, none⟩) bm (zs.map (Value.int .u8))) := Lib.hid fun u v => (HSQ.out.setCell (p := ⟨g1, an + jn, none⟩) (.inl (by show hi ≤ g1; omega)) u).setCell (p := ⟨g1 + 1, an + jn, none⟩) (.inl (by show hi ≤ g1 + 1; omega)) v
                      have hB2 : Hid (∀ u v, Below w.heap.size w ((wr.setCell ⟨g1, an + jn, none⟩ u).setCell ⟨g1 + 1, an + jn, none⟩ v)) := Lib.hid fun u v => (hb.setCell (p := ⟨g1, an + jn, none⟩) (by show w.heap.size ≤ g1; omega) u).setCell (p := ⟨g1 + 1, an + jn, none⟩) (by show w.heap.size ≤ g1 + 1; omega) v
                      have hO1 : Hid (∀ u v, ((wr.setCell ⟨g1, an + jn, none⟩ u).setCell ⟨g1 + 1, an + jn, none⟩ v).ownsRow g1 5 1 (.slice (some ⟨g1, 0, none⟩) m m) m ((outL st').set (an + jn) u)) := Lib.hid fun u v => own_store ((o1.stored (an + jn) u).1) (by simp [Value.ownBlock]) v
                      have hO2 : Hid (∀ u v, ((wr.setCell ⟨g1, an + jn, none⟩ u).setCell ⟨g1 + 1, an + jn, none⟩ v).ownsRow (g1 + 1) 4 1 (.slice (some ⟨g1 + 1, 0, none⟩) m m) m ((hasL st').set (an + jn) v)) := Lib.hid fun u v => ((own_store (i := an + jn) o2 (k := g1) (by simp [Value.ownBlock]) u).stored (an + jn) v).1
                      clear KB KQ
                      have hwr : IntKind.i64.wrap ((an : Int) + (jn : Int)) = (an : Int) + (jn : Int) := IntWalk.i64_in _ (by omega)
                      have hqg : q ≠ g1 := by omega
                      have hqg2 : q ≠ g1 + 1 := by omega
                      have hbg : bb ≠ g1 := by omega
                      have hbg2 : bb ≠ g1 + 1 := by omega
                      have hj0 : (0 : Int) ≤ (jn : Int) := by omega
                      have hj1 : (jn : Int) < (bm : Int) := by omega
                      cases o with
                      | none =>
                        obtain ⟨st2, hp1, hp2, hp3⟩ := put_free x hso
                        rw [hp1] at hfs
                        have HP1 := Lib.hid hp1
                        have HFS := Lib.hid hfs
                        have HP2 := Lib.hid hp2
                        have HP3 := Lib.hid hp3
                        clear hp1 hfs hfn hp2 hp3 hso
                        simp only [Option.isSome_none, Option.getD_none] at oc hc
                        go_wp2_with fail
                        go_quiet (fail)
                        go_wp2_with fail
                        go_region_with (fail)
                        all_goals
                          go_wp2_with fail
                          have oo1 := hO1.out (.int .u8 x) (.bool true)
                          have oo2 := hO2.out (.int .u8 x) (.bool true)
                          rw [HP2.out] at oo1
                          rw [HP3.out] at oo2
                          have ks := HKB.out (.int .u8 x) (.bool true)
                          have ss := hSS.out (.int .u8 x) (.bool true)
                          have bs := hB2.out (.int .u8 x) (.bool true)
                          go_roundw
                          case rel => exact ⟨jn + 1, st2, by omega, by go_num, by rw [putB_len HP1.out]; exact hsl', HFS, Lib.hid (HBY'.out.put HP1.out hxb), oo1, oo2, ks, Lib.hid ss, by simp; omega, below_drewN bs _⟩
                          case measure => simp [intOf]; omega
                      | some y =>
                        simp only [Option.isSome_some, Option.getD_some] at oc hc
                        by_cases hxy : y = x
                        · subst hxy
                          obtain ⟨hp1, hp2, hp3⟩ := put_same hso
                          rw [hp1] at hfs
                          have HFS := Lib.hid hfs
                          have HP2 := Lib.hid hp2
                          have HP3 := Lib.hid hp3
                          have hyy : ((y : Int) != y) = false := by simp
                          clear hp1 hfs hfn hp2 hp3 hso
                          go_wp2_with fail
                          go_quiet (fail)
                          go_wp2_with fail
                          go_region_with (fail)
                          all_goals
                            go_wp2_with fail
                            have oo1 := hO1.out (.int .u8 y) (.bool true)
                            have oo2 := hO2.out (.int .u8 y) (.bool true)
                            rw [HP2.out] at oo1
                            rw [HP3.out] at oo2
                            have ks := HKB.out (.int .u8 y) (.bool true)
                            have ss := hSS.out (.int .u8 y) (.bool true)
                            have bs := hB2.out (.int .u8 y) (.bool true)
                            go_roundw
                            case rel => exact ⟨jn + 1, st', by omega, by go_num, hsl', HFS, HBY', oo1, oo2, ks, Lib.hid ss, by simp; omega, below_drewN bs _⟩
                            case measure => simp [intOf]; omega
                        · have HB := Lib.hid (hfill.out (fillPs_none HFI.out hkc (by rw [HPC.out]; simp only [Int.toNat_natCast]; exact hfn (put_bad hso hxy))))
                          have hyy : ((y : Int) != x) = true := by simpa using hxy
                          clear hfs hfn hso
                          go_wp2_with fail
                          go_quiet (fail)
                          go_wp2_with fail
                          go_ret2
                          exact RetJoin.noE HB.out (below_drewN hb _) rfl
                    · obtain rfl : bm = jn := by omega
                      have hfb := HFB.out
                      rw [take_all HZL.out] at hfb
                      have hfp := fillPs_step HFI.out hkc
                      rw [HPC.out] at hfp
                      simp only [Int.toNat_natCast] at hfp
                      rw [hfb] at hfp
                      have HFP := Lib.hid hfp
                      clear hfb hfp
                      go_wp2_with fail
                      go_roundw
                      case rel => exact ⟨k + 1, st', by omega, by go_num, hsl', HFP, HMT, HBY', o1, o2, by omega, hb⟩
                      case measure => simp [intOf]; omega
              | false =>
                have HMT := Lib.hid (all_take_succ HMO.out (get_pc hkc) (hoks.2 ⟨e6, fun h => by cases h⟩))
                clear hoks hmem
                go_wp2_with fail
                have hbq := hb.alloc hb.size (.cells #[.int .i64 (an : Int), .bool false, .slice B bm mc] 35)
                have KQ := Blk.new wr 35 #[.int .i64 (an : Int), .bool false, .slice B bm mc]
                have o1q := o1.alloc (.cells #[.int .i64 (an : Int), .bool false, .slice B bm mc] 35)
                have o2q := o2.alloc (.cells #[.int .i64 (an : Int), .bool false, .slice B bm mc] 35)
                have hzq : (wr.alloc (.cells #[.int .i64 (an : Int), .bool false, .slice B bm mc] 35)).heap.size = wr.heap.size + 1 := by simp
                have hsq : Sl (wr.alloc (.cells #[.int .i64 (an : Int), .bool false, .slice B bm mc] 35)) lo hi 1 B bm (zs.map (Value.int .u8)) := hS0.out.alloc (by have := hb.size; omega) _
                generalize wr.alloc (.cells #[.int .i64 (an : Int), .bool false, .slice B bm mc] 35) = wq at hbq KQ o1q o2q hzq hsq ⊢
                obtain ⟨q, hqe⟩ : ∃ q, wr.heap.size = q := ⟨_, rfl⟩
                rw [hqe] at KQ hzq hz ⊢
                have hqw : w.heap.size ≤ q := by rw [← hqe]; exact hb.size
                have HSQ := Lib.hid hsq
                clear hqe o1 o2 hb hsq hS0
                go_loopw [11] (fun j wr => ∃ (jn : Nat) (st' : List (Option Int)), jn ≤ bm ∧ j = .int .i64 jn ∧ st'.length = m ∧ Hid (fillB st an (zs.take jn) = some st') ∧ Hid (ByteO st') ∧ wr.ownsRow g1 5 1 (.slice (some ⟨g1, 0, none⟩) m m) m (outL st') ∧ wr.ownsRow (g1 + 1) 4 1 (.slice (some ⟨g1 + 1, 0, none⟩) m m) m (hasL st') ∧ Blk wr q 35 #[.int .i64 (an : Int), .bool false, .slice B bm mc] ∧ Hid (Sl wr lo hi 1 B bm (zs.map (Value.int .u8))) ∧ q + 1 ≤ wr.heap.size ∧ Below w.heap.size w wr) (fun j _ => bm - (intOf j).toNat)
                case atStart => exact ⟨0, st, Nat.zero_le _, rfl, hsl, Lib.hid rfl, HBY, o1q, o2q, KQ, HSQ, by omega, hbq⟩
                case round =>
                  obtain ⟨jn, st', hjn, rfl, hsl', HFB, HBY', o1, o2, KQ, HSQ, hzr, hb⟩ := hrel
                  obtain ⟨p0, p1, p2, _⟩ := KQ.tri
                  by_cases hjl : jn < bm
                  · obtain ⟨bb, boff, rfl, _, hbb, bc, _⟩ := HSQ.out.Byte hjl
                    have hxb := HBYZ.out.at_ jn
                    have hfs := fillB_step HFB.out (by rw [HZL.out]; exact hjl)
                    have hfn := fun hn => fillB_none HFB.out (by rw [HZL.out]; exact hjl) hn
                    obtain ⟨x, hxe⟩ : ∃ x, zs[jn]?.getD 0 = x := ⟨_, rfl⟩
                    rw [hxe] at bc hxb hfs hfn
                    clear hxe
                    have him : an + jn < m := by omega
                    have hi0 : (0 : Int) ≤ (an : Int) + (jn : Int) := by omega
                    have hi1 : (an : Int) + (jn : Int) < (m : Int) := by omega
                    have htn : ((an : Int) + (jn : Int)).toNat = an + jn := by omega
                    have hso : st'[an + jn]? = some (st'[an + jn]'(by omega)) := List.getElem?_eq_getElem (by omega)
                    generalize st'[an + jn]'(by omega) = o at hso
                    obtain ⟨ho1, ho2⟩ := outL_at hso
                    have oc := (o1.cellAt (an + jn) (by omega)).trans ho1
                    have hc := (o2.cellAt (an + jn) (by omega)).trans ho2
                    have of := o1.frozenAt (an + jn)
                    have hf := o2.frozenAt (an + jn)
                    have og := (o1.lt g1 rfl).2
                    have hg := (o2.lt (g1 + 1) rfl).2
                    clear ho1 ho2
                    have KB : ∀ u v, Blk ((wr.setCell ⟨g1, an + jn, none⟩ u).setCell ⟨g1 + 1, an + jn, none⟩ v) q 35 #[.int .i64 (an : Int), .bool false, .slice (some ⟨bb, boff, none⟩) bm mc] := fun u v => (KQ.far (p := ⟨g1, an + jn, none⟩) (show q ≠ g1 by omega) u).far (p := ⟨g1 + 1, an + jn, none⟩) (show q ≠ g1 + 1 by omega) v
                    have HKB := Lib.hid KB
                    have hSS : Hid (∀ u v, Sl ((wr.setCell ⟨g1, an + jn, none⟩ u).setCell ⟨g1 + 1, an + jn, none⟩ v) lo hi 1 (some ⟨bb, boff, none⟩) bm (zs.map (Value.int .u8))) := Lib.hid fun u v => (HSQ.out.setCell (p := ⟨g1, an + jn, none⟩) (.inl (by show hi ≤ g1; omega)) u).setCell (p := ⟨g1 + 1, an + jn, none⟩) (.inl (by show hi ≤ g1 + 1; omega)) v
                    have hB2 : Hid (∀ u v, Below w.heap.size w ((wr.setCell ⟨g1, an + jn, none⟩ u).setCell ⟨g1 + 1, an + jn, none⟩ v)) := Lib.hid fun u v => (hb.setCell (p := ⟨g1, an + jn, none⟩) (by show w.heap.size ≤ g1; omega) u).setCell (p := ⟨g1 + 1, an + jn, none⟩) (by show w.heap.size ≤ g1 + 1; omega) v
                    have hO1 : Hid (∀ u v, ((wr.setCell ⟨g1, an + jn, none⟩ u).setCell ⟨g1 + 1, an + jn, none⟩ v).ownsRow g1 5 1 (.slice (some ⟨g1, 0, none⟩) m m) m ((outL st').set (an + jn) u)) := Lib.hid fun u v => own_store ((o1.stored (an + jn) u).1) (by simp [Value.ownBlock]) v
                    have hO2 : Hid (∀ u v, ((wr.setCell ⟨g1, an + jn, none⟩ u).setCell ⟨g1 + 1, an + jn, none⟩ v).ownsRow (g1 + 1) 4 1 (.slice (some ⟨g1 + 1, 0, none⟩) m m) m ((hasL st').set (an + jn) v)) := Lib.hid fun u v => ((own_store (i := an + jn) o2 (k := g1) (by simp [Value.ownBlock]) u).stored (an + jn) v).1
                    clear KB KQ
                    have hwr : IntKind.i64.wrap ((an : Int) + (jn : Int)) = (an : Int) + (jn : Int) := IntWalk.i64_in _ (by omega)
                    have hqg : q ≠ g1 := by omega
                    have hqg2 : q ≠ g1 + 1 := by omega
                    have hbg : bb ≠ g1 := by omega
                    have hbg2 : bb ≠ g1 + 1 := by omega
                    have hj0 : (0 : Int) ≤ (jn : Int) := by omega
                    have hj1 : (jn : Int) < (bm : Int) := by omega
                    cases o with
                    | none =>
                      obtain ⟨st2, hp1, hp2, hp3⟩ := put_free x hso
                      rw [hp1] at hfs
                      have HP1 := Lib.hid hp1
                      have HFS := Lib.hid hfs
                      have HP2 := Lib.hid hp2
                      have HP3 := Lib.hid hp3
                      clear hp1 hfs hfn hp2 hp3 hso
                      simp only [Option.isSome_none, Option.getD_none] at oc hc
                      go_wp2_with fail
                      go_quiet (fail)
                      go_wp2_with fail
                      go_region_with (fail)
                      all_goals
                        go_wp2_with fail
                        have oo1 := hO1.out (.int .u8 x) (.bool true)
                        have oo2 := hO2.out (.int .u8 x) (.bool true)
                        rw [HP2.out] at oo1
                        rw [HP3.out] at oo2
                        have ks := HKB.out (.int .u8 x) (.bool true)
                        have ss := hSS.out (.int .u8 x) (.bool true)
                        have bs := hB2.out (.int .u8 x) (.bool true)
                        go_roundw
                        case rel => exact ⟨jn + 1, st2, by omega, by go_num, by rw [putB_len HP1.out]; exact hsl', HFS, Lib.hid (HBY'.out.put HP1.out hxb), oo1, oo2, ks, Lib.hid ss, by simp; omega, below_drewN bs _⟩
                        case measure => simp [intOf]; omega
                    | some y =>
                      simp only [Option.isSome_some, Option.getD_some] at oc hc
                      by_cases hxy : y = x
                      · subst hxy
                        obtain ⟨hp1, hp2, hp3⟩ := put_same hso
                        rw [hp1] at hfs
                        have HFS := Lib.hid hfs
                        have HP2 := Lib.hid hp2
                        have HP3 := Lib.hid hp3
                        have hyy : ((y : Int) != y) = false := by simp
                        clear hp1 hfs hfn hp2 hp3 hso
                        go_wp2_with fail
                        go_quiet (fail)
                        go_wp2_with fail
                        go_region_with (fail)
                        all_goals
                          go_wp2_with fail
                          have oo1 := hO1.out (.int .u8 y) (.bool true)
                          have oo2 := hO2.out (.int .u8 y) (.bool true)
                          rw [HP2.out] at oo1
                          rw [HP3.out] at oo2
                          have ks := HKB.out (.int .u8 y) (.bool true)
                          have ss := hSS.out (.int .u8 y) (.bool true)
                          have bs := hB2.out (.int .u8 y) (.bool true)
                          go_roundw
                          case rel => exact ⟨jn + 1, st', by omega, by go_num, hsl', HFS, HBY', oo1, oo2, ks, Lib.hid ss, by simp; omega, below_drewN bs _⟩
                          case measure => simp [intOf]; omega
                      · have HB := Lib.hid (hfill.out (fillPs_none HFI.out hkc (by rw [HPC.out]; simp only [Int.toNat_natCast]; exact hfn (put_bad hso hxy))))
                        have hyy : ((y : Int) != x) = true := by simpa using hxy
                        clear hfs hfn hso
                        go_wp2_with fail
                        go_quiet (fail)
                        go_wp2_with fail
                        go_ret2
                        exact RetJoin.noE HB.out (below_drewN hb _) rfl
                  · obtain rfl : bm = jn := by omega
                    have hfb := HFB.out
                    rw [take_all HZL.out] at hfb
                    have hfp := fillPs_step HFI.out hkc
                    rw [HPC.out] at hfp
                    simp only [Int.toNat_natCast] at hfp
                    rw [hfb] at hfp
                    have HFP := Lib.hid hfp
                    clear hfb hfp
                    go_wp2_with fail
                    go_roundw
                    case rel => exact ⟨k + 1, st', by omega, by go_num, hsl', HFP, HMT, HBY', o1, o2, by omega, hb⟩
                    case measure => simp [intOf]; omega
            · have e6b : decide ((m : Int) < (an : Int) + (bm : Int)) = true := decide_eq_true (by omega)
              have HB := Lib.hid (HT.out.bad hmem (Bool.eq_false_iff.2 fun h => e6 (hoks.1 h).1))
              clear hoks hmem
              go_wp2_with fail
              go_ret2
              exact RetJoin.noE HB.out (hb.alloc hb.size _) (by simp)
          · obtain rfl : n = k := by omega
            rw [take_all HCL.out] at HFI HMO
            have hends := HT.out.all_ HMO.out
            have HEN := Lib.hid hends
            clear hends
            have hcell : ∀ i, i < m → ∃ o, st[i]? = some o ∧ wr.cell? ⟨g1 + 1, i, none⟩ = some (.bool o.isSome) := fun i hi => ⟨_, List.getElem?_eq_getElem (by omega), (o2.cellAt i (by omega)).trans (outL_at (List.getElem?_eq_getElem (by omega))).2⟩
            have HCE := Lib.hid hcell
            clear hcell
            go_wp2_with fail
            go_loop [12] (fun i => ∃ k : Nat, k ≤ m ∧ i = .int .i64 k ∧ Hid ((st.take k).all Option.isSome = true)) (fun i => m - (intOf i).toNat)
            case atStart => exact ⟨0, Nat.zero_le _, rfl, Lib.hid rfl⟩
            case round =>
              obtain ⟨k, hk, rfl, HA⟩ := hrel
              by_cases hkm : k < m
              · obtain ⟨o, ho, hc⟩ := HCE.out k hkm
                have HO := Lib.hid ho
                clear ho
                cases o with
                | none =>
                  simp only [Option.isSome_none] at hc
                  have HB : Hid (joinP cs = none) := Lib.hid (joinP_cover (by rw [HEN.out.1]; exact HFI.out) (all_some_bad HO.out))
                  go_wp2_with fail
                  go_ret2
                  exact RetJoin.noE HB.out hb rfl
                | some y =>
                  simp only [Option.isSome_some] at hc
                  go_wp2_with fail
                  go_round
                  case rel => exact ⟨k + 1, by omega, by go_num, Lib.hid (all_some_step HA.out HO.out)⟩
                  case measure => simp [intOf]; omega
              · obtain rfl : m = k := by omega
                rw [take_all hsl] at HA
                by_cases hcnt : 1 ≤ n ∧ n ≤ 80
                · have HB := Lib.hid (joinP_yes (by rw [HCL.out]; exact hcnt) HF.out (by rw [HEN.out.1]; exact HEN.out.2) (by rw [HEN.out.1]; exact HFI.out) HA.out)
                  have hlen : (st.map fun o => o.getD 0).length = m := by simp [hsl]
                  have HLEN := Lib.hid hlen
                  clear hlen
                  go_wp2_with fail
                  go_ret2
                  rw [HB.out]
                  rw [outL_ints] at o1
                  exact ⟨_, m, m, rfl, HLEN.out, own_more o1 (by omega), hb⟩
                · exfalso
                  have h0 : n = 0 := by omega
                  have hc0 : cs = [] := List.eq_nil_of_length_eq_zero (by rw [HCL.out]; exact h0)
                  rcases HT.out with ⟨h1, _⟩ | ⟨_, _, ⟨q, hq, _⟩, _⟩
                  · omega
                  · rw [hc0] at hq; exact absurd hq (by simp)
      · have HJ := Lib.hid (HT.out.no HF.out (by omega))
        go_wp2_with fail
        go_ret2
        exact RetJoin.noE HJ.out hb rfl
end Go.Proofs.Ytljbkppeoedcjaa
