/-
  JoinPieces of impl.
-/
import Derived.Test.YtljbkppeoedcjaaJoinL

import Derived.Test.YtljbkppeoedcjaaIn
import Derived.IntWalk
namespace Go.Proofs.Ytljbkppeoedcjaa
open Go.RowKit
set_option linter.unusedVariables false

theorem infoBool : (Try.prog.info? 4).map (fun i => (i.zero, i.size, i.bytes)) = some (some (.bool false), 1, 1) := by kernel_rfl
/-- A call hands back bytes of its own and whether there are any. -/
def RetJoin (W : World) (r : Option (List Int)) (e : Ending) (w' : World) : Prop := ∃ (A : Option Addr) (n c : Nat), e = .returned (.tuple #[.slice A n c, .bool r.isSome]) ∧ (r.getD []).length = n ∧ w'.ownsRow W.heap.size 5 1 (.slice A n c) n ((r.getD []).map (Value.int .u8)) ∧ Below W.heap.size W w'
theorem RetJoin.no {W w' : World} {r : Option (List Int)} (h : r = none) (hb : Below W.heap.size W w') : RetJoin W r (.returned (.tuple #[.slice none 0 0, .bool false])) w' := by
  subst h
  exact ⟨none, 0, 0, rfl, rfl, World.ownsRow_nil _ _ _ _, hb⟩
theorem fits_no {p : Pc} (h : ¬ (0 ≤ p.at_ ∧ p.at_ + p.body.length ≤ 80)) : fits p = false := by
  unfold fits
  rw [Bool.and_eq_false_iff]
  by_cases h0 : 0 ≤ p.at_
  · right; exact decide_eq_false (fun hh => h ⟨h0, hh⟩)
  · left; exact decide_eq_false h0
theorem fits_yes {p : Pc} (h : 0 ≤ p.at_ ∧ p.at_ + p.body.length ≤ 80) : fits p = true := by
  unfold fits
  rw [decide_eq_true h.1, decide_eq_true h.2]
  rfl
theorem take_all {α : Type} {l : List α} {n : Nat} (h : l.length = n) : l.take n = l := by subst h; simp
theorem get_pc {cs : List Pc} {k : Nat} (h : k < cs.length) : cs[k]? = some (pcAt cs k) := by rw [pcAt_eq h]; exact List.getElem?_eq_getElem h
theorem putB_len {st st' : List (Option Int)} {i : Nat} {x : Int} (h : putB st i x = some st') : st'.length = st.length := (putB_some h).1
theorem add_toNat {a : Nat} {p : Pc} (h : p.at_ = (a : Int)) : p.at_.toNat = a := by rw [h]; simp

set_option maxRecDepth 100000 in
set_option maxHeartbeats 6400000 in
theorem iJoinPieces_any (A : Option Addr) (n c : Nat) (ps : List Pv) (w : World) {lo hi : Nat} (hS : Pcs w lo hi A n ps) (hhi : hi ≤ w.heap.size) (h64 : ∀ p ∈ ps, -9223372036854775808 ≤ p.at_ ∧ p.at_ ≤ 9223372036854775807) (hnm : n ≤ maxLen) :
    Calls Try.prog 18 #[.slice A n c] w (RetJoin w (joinP (ps.map Pv.pc))) := by
  unfold maxLen at hnm
  have HL := Lib.hid hS.len
  have hcp : ∀ k, k < n → pcAt (ps.map Pv.pc) k = (pAt ps k).pc := fun k hk => pcAt_map (by rw [HL.out]; exact hk)
  have hcl : (ps.map Pv.pc).length = n := by simp [HL.out]
  generalize ps.map Pv.pc = cs at hcp hcl ⊢
  have HCP := Lib.hid hcp
  have HCL := Lib.hid hcl
  clear hcp hcl
  by_cases hcnt : 1 ≤ n ∧ n ≤ 80
  · have hin : inB (n : Int) 1 80 = true := inB_true (by omega)
    go_enter Try.func18, Try.ntmps18
    go_wp2_with (go_at_call 26; refine (in_any _ _ _ _).mono ?_; rw [hin]; rintro e w' ⟨rfl, rfl⟩)
    go_loopw [4, 21] (fun L i wr => ∃ (k m : Nat), k ≤ n ∧ i = .int .i64 k ∧ L = .int .i64 m ∧ m ≤ 80 ∧ Hid (ends (cs.take k) = m) ∧ Hid ((cs.take k).all fits = true) ∧ Below w.heap.size w wr) (fun _ i _ => n - (intOf i).toNat)
    case atStart => exact ⟨0, 0, Nat.zero_le _, rfl, rfl, by omega, Lib.hid rfl, Lib.hid rfl, Below.refl _ _⟩
    case round =>
      obtain ⟨k, m, hk, rfl, rfl, hm, HE, HF, hb⟩ := hrel
      by_cases hlt : k < n
      · obtain ⟨b, off, rfl, _, _, c0, c1, c2, hsl, hbc, hbm, _⟩ := (hS.below hb hhi).piece hlt
        have hpc := HCP.out k hlt
        have h6 := h64 _ (pAt_mem (ps := ps) (k := k) (by rw [HL.out]; exact hlt))
        have hkc : k < cs.length := by rw [HCL.out]; exact hlt
        have hes := ends_step hkc
        rw [HE.out] at hes
        obtain ⟨⟨a, mo, B, bm, mc, zs⟩, hp⟩ : ∃ p, pAt ps k = p := ⟨_, rfl⟩
        rw [hp] at c0 c1 c2 hsl hbc hbm hpc h6
        clear hp
        simp only at c0 c1 c2 hsl hbc hbm h6
        have hzl := hsl.len
        simp only [Pv.pc] at hpc
        unfold maxLen at hbm
        rw [hpc] at hes
        simp only at hes
        rw [hzl] at hes
        have hmem := pcAt_mem hkc
        by_cases hfit : 0 ≤ a ∧ a + (bm : Int) ≤ 80
        · have hft : fits (pcAt cs k) = true := fits_yes (by rw [hpc]; simp only; rw [hzl]; exact hfit)
          have hall := all_take_succ HF.out (get_pc hkc) hft
          have HALL := Lib.hid hall
          obtain ⟨an, rfl⟩ : ∃ an : Nat, a = (an : Int) := ⟨a.toNat, by omega⟩
          rw [Int.toNat_natCast] at hes
          have HES := Lib.hid hes
          clear hes hall hft hpc hzl hmem
          have e1 : ¬ ((an : Int) < 0) := by omega
          have e2 : ¬ ((80 : Int) < (an : Int)) := by omega
          have e3 : ¬ ((80 : Int) - (an : Int) < (bm : Int)) := by omega
          rcases Nat.lt_trichotomy m (an + bm) with hl | hl | hl
          · go_wp2_with fail
            go_roundw
            case rel => exact ⟨k + 1, an + bm, by omega, by go_num, by go_num, by omega, Lib.hid (by rw [HES.out]; omega), HALL, hb.alloc hb.size _⟩
            case measure => simp [intOf]; omega
          · go_wp2_with fail
            all_goals
              go_roundw
              case rel => exact ⟨k + 1, an + bm, by omega, by go_num, by go_num, by omega, Lib.hid (by rw [HES.out]; omega), HALL, hb.alloc hb.size _⟩
              case measure => simp [intOf]; omega
          · go_wp2_with fail
            go_roundw
            case rel => exact ⟨k + 1, m, by omega, by go_num, rfl, by omega, Lib.hid (by rw [HES.out]; omega), HALL, hb.alloc hb.size _⟩
            case measure => simp [intOf]; omega
        · have hft : fits (pcAt cs k) = false := fits_no (by rw [hpc]; simp only; rw [hzl]; exact hfit)
          have HJ := Lib.hid (joinP_fits (all_false hmem hft))
          clear hft hes hpc hzl hmem
          by_cases e1 : a < 0
          · go_wp2_with fail
            go_ret2
            exact RetJoin.no HJ.out (hb.alloc hb.size _)
          · by_cases e2 : (80 : Int) < a
            · go_wp2_with fail
              go_ret2
              exact RetJoin.no HJ.out (hb.alloc hb.size _)
            · have e3 : (80 : Int) - a < (bm : Int) := by omega
              go_wp2_with fail
              go_ret2
              exact RetJoin.no HJ.out (hb.alloc hb.size _)
      · obtain rfl : n = k := by omega
        rw [take_all HCL.out] at HE HF
        have hzb := hb.size
        have hmkB : ∀ W : World, (Instr.makeSlice 22 (.int .i64 (m : Int)) (.int .i64 (m : Int))).run Try.prog W = .ok (.slice (some ⟨W.heap.size, 0, none⟩) m m) (W.alloc (.cells (madeCells #[.int .u8 0] m) 5)) := fun W =>
          run_make_row' (P := Try.prog) 22 5 (.int .u8 0) 1 Try.underlying22 infoByte rfl .i64 .i64 m (by omega) (by omega) W
        have hmkF : ∀ W : World, (Instr.makeSlice 55 (.int .i64 (m : Int)) (.int .i64 (m : Int))).run Try.prog W = .ok (.slice (some ⟨W.heap.size, 0, none⟩) m m) (W.alloc (.cells (madeCells #[.bool false] m) 4)) := fun W =>
          run_make_row' (P := Try.prog) 55 4 (.bool false) 1 Try.underlying55 infoBool rfl .i64 .i64 m (by omega) (by omega) W
        have o1 := (own_made wr (.int .u8 0) 5 m (by unfold maxLen; omega)).alloc (.cells (madeCells #[.bool false] m) 4)
        have o2 := own_made (wr.alloc (.cells (madeCells #[.int .u8 0] m) 5)) (.bool false) 4 m (by unfold maxLen; omega)
        simp only [World.size_alloc] at o2
        have d2 := (hb.alloc hb.size (.cells (madeCells #[.int .u8 0] m) 5)).alloc (by simp; omega) (.cells (madeCells #[.bool false] m) 4)
        rw [← outL_none] at o1
        rw [← hasL_none] at o2
        have hmored : Hid (∀ k, k < n → mored m (pcAt cs k) = false → joinP cs = none) := Lib.hid fun k hk hf => joinP_mored (by rw [HE.out]; exact all_false (pcAt_mem (by rw [HCL.out]; exact hk)) hf)
        have hfill : Hid (fillPs (List.replicate m none) cs = none → joinP cs = none) := Lib.hid fun h => joinP_fill (by rw [HE.out]; exact h)
        go_wp2_with fail
        obtain ⟨g1, hg1⟩ : ∃ g, wr.heap.size = g := ⟨_, rfl⟩
        generalize hw2 : (wr.alloc (.cells (madeCells #[.int .u8 0] m) 5)).alloc (.cells (madeCells #[.bool false] m) 4) = w2 at o1 o2 d2 ⊢
        have hz2 : w2.heap.size = wr.heap.size + 1 + 1 := by rw [← hw2]; simp
        rw [hg1] at o1 o2 hz2 hzb ⊢
        clear hw2 hg1 hmkB hmkF hb
        go_loopw [57] (fun i wr => ∃ (k : Nat) (st : List (Option Int)), k ≤ n ∧ i = .int .i64 k ∧ st.length = m ∧ Hid (fillPs (List.replicate m none) (cs.take k) = some st) ∧ Hid ((cs.take k).all (mored m) = true) ∧ Hid (ByteO st) ∧ wr.ownsRow g1 5 1 (.slice (some ⟨g1, 0, none⟩) m m) m (outL st) ∧ wr.ownsRow (g1 + 1) 4 1 (.slice (some ⟨g1 + 1, 0, none⟩) m m) m (hasL st) ∧ g1 + 1 + 1 ≤ wr.heap.size ∧ Below w.heap.size w wr) (fun i _ => n - (intOf i).toNat)
        case atStart => exact ⟨0, _, Nat.zero_le _, rfl, by simp, Lib.hid rfl, Lib.hid rfl, Lib.hid (ByteO.none_ _), o1, o2, by omega, d2⟩
        case round =>
          obtain ⟨k, st, hk, rfl, hsl, HFI, HMO, HBY, o1, o2, hz, hb⟩ := hrel
          by_cases hlt : k < n
          · obtain ⟨b, off, rfl, _, _, c0, c1, c2, hsb, hbc, hbm, hby⟩ := (hS.below hb hhi).piece hlt
            have hpc := HCP.out k hlt
            have hkc : k < cs.length := by rw [HCL.out]; exact hlt
            have hfk := List.all_eq_true.1 HF.out _ (pcAt_mem hkc)
            have hen : (pcAt cs k).at_.toNat + (pcAt cs k).body.length ≤ m := by rw [← HE.out]; exact (ends_ge cs 0).2 _ (pcAt_mem hkc)
            have hmor := mored_iff (L := m) (p := pcAt cs k)
            obtain ⟨⟨a, mo, B, bm, mc, zs⟩, hp⟩ : ∃ p, pAt ps k = p := ⟨_, rfl⟩
            rw [hp] at c0 c1 c2 hsb hbc hbm hby hpc
            clear hp
            simp only at c0 c1 c2 hsb hbc hbm hby
            have hzl := hsb.len
            simp only [Pv.pc] at hpc
            rw [hpc] at hfk hen hmor
            simp only [fits, Bool.and_eq_true, decide_eq_true_eq] at hfk
            simp only at hen hmor
            rw [hzl] at hfk hen hmor
            obtain ⟨an, rfl⟩ : ∃ an : Nat, a = (an : Int) := ⟨a.toNat, by omega⟩
            rw [Int.toNat_natCast] at hen hmor
            have HPC := Lib.hid hpc
            have HZL := Lib.hid hzl
            have hS0 : Hid (Sl wr lo hi 1 B bm (zs.map (Value.int .u8))) := Lib.hid hsb
            have HBYZ := Lib.hid hby
            rw [← hpc] at hmor
            by_cases hmm : (mo = true ↔ an + bm ≠ m)
            · have hmT := hmor.2 hmm
              have HMT := Lib.hid (all_take_succ HMO.out (get_pc hkc) hmT)
              have hq : (mo == ((an : Int) + (bm : Int) == (m : Int))) = false := by
                cases mo with
                | true =>
                  have : ¬ ((an : Int) + (bm : Int) = (m : Int)) := by have := hmm.1 rfl; omega
                  simp [this]
                | false =>
                  have : ((an : Int) + (bm : Int) = (m : Int)) := by
                    rcases Nat.decEq (an + bm) m with h | h
                    · exact absurd (hmm.2 h) (by simp)
                    · omega
                  simp [this]
              clear hmor hmm hmT hpc hzl hsb hby
              go_wp2_with fail
              have hbq := hb.alloc hb.size (.cells #[.int .i64 (an : Int), .bool mo, .slice B bm mc] 35)
              have KQ := Blk.new wr 35 #[.int .i64 (an : Int), .bool mo, .slice B bm mc]
              have o1q := o1.alloc (.cells #[.int .i64 (an : Int), .bool mo, .slice B bm mc] 35)
              have o2q := o2.alloc (.cells #[.int .i64 (an : Int), .bool mo, .slice B bm mc] 35)
              have hzq : (wr.alloc (.cells #[.int .i64 (an : Int), .bool mo, .slice B bm mc] 35)).heap.size = wr.heap.size + 1 := by simp
              have hsq : Sl (wr.alloc (.cells #[.int .i64 (an : Int), .bool mo, .slice B bm mc] 35)) lo hi 1 B bm (zs.map (Value.int .u8)) := hS0.out.alloc (by have := hb.size; omega) _
              generalize wr.alloc (.cells #[.int .i64 (an : Int), .bool mo, .slice B bm mc] 35) = wq at hbq KQ o1q o2q hzq hsq ⊢
              obtain ⟨q, hqe⟩ : ∃ q, wr.heap.size = q := ⟨_, rfl⟩
              rw [hqe] at KQ hzq hz ⊢
              have hqw : w.heap.size ≤ q := by rw [← hqe]; exact hb.size
              have HSQ := Lib.hid hsq
              clear hqe o1 o2 hb hsq hS0
              go_loopw [75] (fun j wr => ∃ (jn : Nat) (st' : List (Option Int)), jn ≤ bm ∧ j = .int .i64 jn ∧ st'.length = m ∧ Hid (fillB st an (zs.take jn) = some st') ∧ Hid (ByteO st') ∧ wr.ownsRow g1 5 1 (.slice (some ⟨g1, 0, none⟩) m m) m (outL st') ∧ wr.ownsRow (g1 + 1) 4 1 (.slice (some ⟨g1 + 1, 0, none⟩) m m) m (hasL st') ∧ Blk wr q 35 #[.int .i64 (an : Int), .bool mo, .slice B bm mc] ∧ Hid (Sl wr lo hi 1 B bm (zs.map (Value.int .u8))) ∧ q + 1 ≤ wr.heap.size ∧ Below w.heap.size w wr) (fun j _ => bm - (intOf j).toNat)
              case atStart => exact ⟨0, st, Nat.zero_le _, rfl, hsl, Lib.hid rfl, HBY, o1q, o2q, KQ, HSQ, by omega, hbq⟩
              case round =>
                obtain ⟨jn, st', hjn, rfl, hsl', HFB, HBY', o1, o2, KQ, HSQ, hzr, hb⟩ := hrel
                obtain ⟨p0, p1, p2, _⟩ := KQ.tri
                by_cases hjl : jn < bm
                · obtain ⟨bb, boff, rfl, _, hbb, bc, _⟩ := HSQ.out.Byte hjl
                  have hxb := HBYZ.out.at_ jn
                  have hfs := fillB_step HFB.out (by rw [HZL.out]; exact hjl)
                  have hfn := fun hn => fillB_none HFB.out (by rw [HZL.out]; exact hjl) hn
                  obtain ⟨x, hxe⟩ : ∃ x, zs[jn]?.getD 0 = x := ⟨_, rfl⟩
                  rw [hxe] at bc hxb hfs hfn
                  clear hxe
                  have him : an + jn < m := by omega
                  have hi0 : (0 : Int) ≤ (an : Int) + (jn : Int) := by omega
                  have hi1 : (an : Int) + (jn : Int) < (m : Int) := by omega
                  have htn : ((an : Int) + (jn : Int)).toNat = an + jn := by omega
                  have hso : st'[an + jn]? = some (st'[an + jn]'(by omega)) := List.getElem?_eq_getElem (by omega)
                  generalize st'[an + jn]'(by omega) = o at hso
                  obtain ⟨ho1, ho2⟩ := outL_at hso
                  have oc := (o1.cellAt (an + jn) (by omega)).trans ho1
                  have hc := (o2.cellAt (an + jn) (by omega)).trans ho2
                  have of := o1.frozenAt (an + jn)
                  have hf := o2.frozenAt (an + jn)
                  have og := (o1.lt g1 rfl).2
                  have hg := (o2.lt (g1 + 1) rfl).2
                  clear ho1 ho2
                  have KB : ∀ u v, Blk ((wr.setCell ⟨g1, an + jn, none⟩ u).setCell ⟨g1 + 1, an + jn, none⟩ v) q 35 #[.int .i64 (an : Int), .bool mo, .slice (some ⟨bb, boff, none⟩) bm mc] := fun u v => (KQ.far (p := ⟨g1, an + jn, none⟩) (show q ≠ g1 by omega) u).far (p := ⟨g1 + 1, an + jn, none⟩) (show q ≠ g1 + 1 by omega) v
                  have HKB := Lib.hid KB
                  have hSS : Hid (∀ u v, Sl ((wr.setCell ⟨g1, an + jn, none⟩ u).setCell ⟨g1 + 1, an + jn, none⟩ v) lo hi 1 (some ⟨bb, boff, none⟩) bm (zs.map (Value.int .u8))) := Lib.hid fun u v => (HSQ.out.setCell (p := ⟨g1, an + jn, none⟩) (.inl (by show hi ≤ g1; omega)) u).setCell (p := ⟨g1 + 1, an + jn, none⟩) (.inl (by show hi ≤ g1 + 1; omega)) v
                  have hB2 : Hid (∀ u v, Below w.heap.size w ((wr.setCell ⟨g1, an + jn, none⟩ u).setCell ⟨g1 + 1, an + jn, none⟩ v)) := Lib.hid fun u v => (hb.setCell (p := ⟨g1, an + jn, none⟩) (by show w.heap.size ≤ g1; omega) u).setCell (p := ⟨g1 + 1, an + jn, none⟩) (by show w.heap.size ≤ g1 + 1; omega) v
                  have hO1 : Hid (∀ u v, ((wr.setCell ⟨g1, an + jn, none⟩ u).setCell ⟨g1 + 1, an + jn, none⟩ v).ownsRow g1 5 1 (.slice (some ⟨g1, 0, none⟩) m m) m ((outL st').set (an + jn) u)) := Lib.hid fun u v => own_store ((o1.stored (an + jn) u).1) (by simp [Value.ownBlock]) v
                  have hO2 : Hid (∀ u v, ((wr.setCell ⟨g1, an + jn, none⟩ u).setCell ⟨g1 + 1, an + jn, none⟩ v).ownsRow (g1 + 1) 4 1 (.slice (some ⟨g1 + 1, 0, none⟩) m m) m ((hasL st').set (an + jn) v)) := Lib.hid fun u v => ((own_store (i := an + jn) o2 (k := g1) (by simp [Value.ownBlock]) u).stored (an + jn) v).1
                  clear KB KQ
                  cases o with
                  | none =>
                    obtain ⟨st2, hp1, hp2, hp3⟩ := put_free x hso
                    rw [hp1] at hfs
                    have HP1 := Lib.hid hp1
                    have HFS := Lib.hid hfs
                    have HP2 := Lib.hid hp2
                    have HP3 := Lib.hid hp3
                    clear hp1 hfs hfn hp2 hp3 hso
                    simp only [Option.isSome_none, Option.getD_none] at oc hc
                    go_wp2_with fail
                    have hwr : IntKind.i64.wrap ((an : Int) + (jn : Int)) = (an : Int) + (jn : Int) := IntWalk.i64_in _ (by omega)
                    have hqg : q ≠ g1 := by omega
                    have hqg2 : q ≠ g1 + 1 := by omega
                    go_region_with (fail)
                    all_goals
                      go_wp2_with fail
                      have oo1 := hO1.out (.int .u8 x) (.bool true)
                      have oo2 := hO2.out (.int .u8 x) (.bool true)
                      rw [HP2.out] at oo1
                      rw [HP3.out] at oo2
                      have ks := HKB.out (.int .u8 x) (.bool true)
                      have ss := hSS.out (.int .u8 x) (.bool true)
                      have bs := hB2.out (.int .u8 x) (.bool true)
                      go_roundw
                      case rel => exact ⟨jn + 1, st2, by omega, by go_num, by rw [putB_len HP1.out]; exact hsl', HFS, Lib.hid (HBY'.out.put HP1.out hxb), oo1, oo2, ks, Lib.hid ss, by simp; omega, bs.drew⟩
                      case measure => simp [intOf]; omega
                  | some y =>
                    simp only [Option.isSome_some, Option.getD_some] at oc hc
                    by_cases hxy : y = x
                    · subst hxy
                      obtain ⟨hp1, hp2, hp3⟩ := put_same hso
                      rw [hp1] at hfs
                      have HFS := Lib.hid hfs
                      have HP2 := Lib.hid hp2
                      have HP3 := Lib.hid hp3
                      have hyy : ((y : Int) != y) = false := by simp
                      clear hp1 hfs hfn hp2 hp3 hso
                      go_wp2_with fail
                      have hwr : IntKind.i64.wrap ((an : Int) + (jn : Int)) = (an : Int) + (jn : Int) := IntWalk.i64_in _ (by omega)
                      have hqg : q ≠ g1 := by omega
                      have hqg2 : q ≠ g1 + 1 := by omega
                      go_region_with (fail)
                      all_goals
                        go_wp2_with fail
                        have oo1 := hO1.out (.int .u8 y) (.bool true)
                        have oo2 := hO2.out (.int .u8 y) (.bool true)
                        rw [HP2.out] at oo1
                        rw [HP3.out] at oo2
                        have ks := HKB.out (.int .u8 y) (.bool true)
                        have ss := hSS.out (.int .u8 y) (.bool true)
                        have bs := hB2.out (.int .u8 y) (.bool true)
                        go_roundw
                        case rel => exact ⟨jn + 1, st', by omega, by go_num, hsl', HFS, HBY', oo1, oo2, ks, Lib.hid ss, by simp; omega, bs.drew⟩
                        case measure => simp [intOf]; omega
                    · have HB := Lib.hid (hfill.out (fillPs_none HFI.out hkc (by rw [HPC.out]; simp only [Int.toNat_natCast]; exact hfn (put_bad hso hxy))))
                      have hyy : ((y : Int) != x) = true := by simpa using hxy
                      clear hfs hfn hso
                      go_wp2_with fail
                      go_ret2
                      exact RetJoin.no HB.out hb
                · obtain rfl : bm = jn := by omega
                  have hfb := HFB.out
                  rw [take_all HZL.out] at hfb
                  have hfp := fillPs_step HFI.out hkc
                  rw [HPC.out] at hfp
                  simp only [Int.toNat_natCast] at hfp
                  rw [hfb] at hfp
                  have HFP := Lib.hid hfp
                  clear hfb hfp
                  go_wp2_with fail
                  go_roundw
                  case rel => exact ⟨k + 1, st', by omega, by go_num, hsl', HFP, HMT, HBY', o1, o2, by omega, hb⟩
                  case measure => simp [intOf]; omega
            · have hmF : mored m (pcAt cs k) = false := Bool.eq_false_iff.2 fun h => hmm (hmor.1 h)
              have HB := Lib.hid (hmored.out k hlt hmF)
              have hq : (mo == ((an : Int) + (bm : Int) == (m : Int))) = true := by
                cases mo with
                | true =>
                  have : ((an : Int) + (bm : Int) = (m : Int)) := by
                    rcases Nat.decEq (an + bm) m with h | h
                    · exact absurd ⟨fun _ => h, fun _ => rfl⟩ hmm
                    · omega
                  simp [this]
                | false =>
                  have : ¬ ((an : Int) + (bm : Int) = (m : Int)) := by
                    intro h
                    exact hmm ⟨(fun hh => by cases hh), fun hh => absurd (show an + bm = m by omega) hh⟩
                  simp [this]
              clear hmor hmm hmF hpc hzl hsb hby
              go_wp2_with fail
              go_ret2
              exact RetJoin.no HB.out (hb.alloc hb.size _)
          · obtain rfl : n = k := by omega
            rw [take_all HCL.out] at HFI HMO
            have hcell : ∀ i, i < m → ∃ o, st[i]? = some o ∧ wr.cell? ⟨g1 + 1, i, none⟩ = some (.bool o.isSome) := fun i hi => ⟨_, List.getElem?_eq_getElem (by omega), (o2.cellAt i (by omega)).trans (outL_at (List.getElem?_eq_getElem (by omega))).2⟩
            have HCE := Lib.hid hcell
            clear hcell
            go_wp2_with fail
            go_loop [115] (fun i => ∃ k : Nat, k ≤ m ∧ i = .int .i64 k ∧ Hid ((st.take k).all Option.isSome = true)) (fun i => m - (intOf i).toNat)
            case atStart => exact ⟨0, Nat.zero_le _, rfl, Lib.hid rfl⟩
            case round =>
              obtain ⟨k, hk, rfl, HA⟩ := hrel
              by_cases hkm : k < m
              · obtain ⟨o, ho, hc⟩ := HCE.out k hkm
                have HO := Lib.hid ho
                clear ho
                cases o with
                | none =>
                  simp only [Option.isSome_none] at hc
                  have HB : Hid (joinP cs = none) := Lib.hid (joinP_cover (by rw [HE.out]; exact HFI.out) (all_some_bad HO.out))
                  go_wp2_with fail
                  go_ret2
                  exact RetJoin.no HB.out hb
                | some y =>
                  simp only [Option.isSome_some] at hc
                  go_wp2_with fail
                  go_round
                  case rel => exact ⟨k + 1, by omega, by go_num, Lib.hid (all_some_step HA.out HO.out)⟩
                  case measure => simp [intOf]; omega
              · obtain rfl : m = k := by omega
                rw [take_all hsl] at HA
                have HB := Lib.hid (joinP_yes (by rw [HCL.out]; exact hcnt) HF.out (by rw [HE.out]; exact HMO.out) (by rw [HE.out]; exact HFI.out) HA.out)
                have hlen : (st.map fun o => o.getD 0).length = m := by simp [hsl]
                have HLEN := Lib.hid hlen
                clear hlen
                go_wp2_with fail
                go_ret2
                rw [HB.out]
                rw [outL_ints] at o1
                exact ⟨_, m, m, rfl, HLEN.out, own_more o1 (by omega), hb⟩
  · have hin : inB (n : Int) 1 80 = false := inB_false (by omega)
    have HJ := Lib.hid (joinP_count (ps := cs) (by rw [HCL.out]; exact hcnt))
    go_enter Try.func18, Try.ntmps18
    go_wp2_with (go_at_call 26; refine (in_any _ _ _ _).mono ?_; rw [hin]; rintro e w' ⟨rfl, rfl⟩)
    go_ret2
    exact RetJoin.no HJ.out (Below.refl _ _)
end Go.Proofs.Ytljbkppeoedcjaa
