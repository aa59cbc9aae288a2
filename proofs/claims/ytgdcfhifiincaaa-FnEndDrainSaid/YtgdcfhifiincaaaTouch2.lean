/-
  TouchFlow of the reference: what it hands back reads as a table with at most one entry more.
-/
import Derived.Test.YtgdcfhifiincaaaTouch
import Derived.Test.YtgdcfhifiincaaaEvValid0
import Derived.Test.YtgdcfhifiincaaaApp1
namespace Go.Proofs.Ytgdcfhifiincaaa
open Go.RowKit
set_option linter.unusedVariables false

def Touched (w : World) (n : Nat) (e : Ending) (w' : World) : Prop := ∃ (sz st : Int) (A : Option Addr) (m c : Nat) (es : List En7) (ok : Bool), e = .returned (.tuple #[.agg #[.int .i64 sz, .int .i64 st, .slice A m c], .bool ok]) ∧ m ≤ n + 1 ∧ m ≤ c ∧ c ≤ maxLen ∧ w'.ownsRow w.heap.size 56 7 (.slice A m c) m (ensV es) ∧ Below w.heap.size w w'
theorem plF_bd (es : List En7) (e : En7) : -1 ≤ plF es e ∧ plF es e < es.length := by
  rcases plF_cases es e with ⟨h, _⟩ | ⟨k, hk, h, _⟩
  · rw [h]; omega
  · rw [h]; omega
theorem ensV_dropk (es : List En7) (k : Nat) : (ensV es).drop (k * 7) = ensV (es.drop k) := recV_drop enC_len es k
theorem seven_one (a b c d k t l : Int) : ∀ u ∈ (#[Value.int .i64 a, .int .i64 b, .int .i64 c, .int .i64 d, .int .i64 k, .int .i64 t, .int .i64 l] : Array Value).toList, u.oneCell' = true := by
  intro u hu
  simp at hu
  rcases hu with rfl | rfl | rfl | rfl | rfl | rfl | rfl <;> rfl
theorem ensV_snoc (es : List En7) (a b c d k t l : Int) : ensV es ++ (#[Value.int .i64 a, .int .i64 b, .int .i64 c, .int .i64 d, .int .i64 k, .int .i64 t, .int .i64 l] : Array Value).toList = ensV (es ++ [⟨a, b, c, d, k, t, l⟩]) := by
  show ensV es ++ _ = recV enC (es ++ [_])
  rw [recV_append]
  rfl

theorem addr_add (b off j : Nat) : (⟨b, off, none⟩ : Addr).add j = ⟨b, off + j, none⟩ := by unfold Addr.add; split <;> simp_all
set_option maxRecDepth 100000 in
set_option maxHeartbeats 1600000 in
theorem sTouch_any (sz st : Int) (A : Option Addr) (n c : Nat) (es : List En7) (f1 f2 f3 f4 f5 x now : Int) (w : World) {lo hi : Nat} (hS : Sl w lo hi 7 A n (ensV es)) (hhi : hi ≤ w.heap.size) (hn : n ≤ 1000) (hnc : n ≤ c) (hmx : c ≤ maxLen) :
    Calls Try.prog 61 #[.agg #[.int .i64 sz, .int .i64 st, .slice A n c], .agg #[.int .i64 f1, .int .i64 f2, .int .i64 f3, .int .i64 f4, .int .i64 f5], .int .i64 x, .int .i64 now] w (Touched w n) := by
  have HL := Lib.hid hS.nlen
  obtain ⟨i0, hi0, hz0, hz1, hz2⟩ := info_parts infoEnt
  have tzc : (Value.agg #[.int .i64 0, .int .i64 0, .int .i64 0, .int .i64 0, .int .i64 0, .int .i64 0, .int .i64 0]).cells.size = 7 := by kernel_rfl
  have b0 := (((Below.refl w.heap.size w).alloc (Nat.le_refl _) (.cells #[.int .i64 sz, .int .i64 st, .slice A n c] 34)).alloc (by simp) (.cells #[.int .i64 f1, .int .i64 f2, .int .i64 f3, .int .i64 f4, .int .i64 f5] 54)).alloc (by simp; omega) (.cells #[.int .i64 0, .int .i64 0, .slice none 0 0] 34)
  have kT := ((Blk.new w 34 #[.int .i64 sz, .int .i64 st, .slice A n c]).alloc (.cells #[.int .i64 f1, .int .i64 f2, .int .i64 f3, .int .i64 f4, .int .i64 f5] 54)).alloc (.cells #[.int .i64 0, .int .i64 0, .slice none 0 0] 34)
  have kF := (Blk.new (w.alloc (.cells #[.int .i64 sz, .int .i64 st, .slice A n c] 34)) 54 #[.int .i64 f1, .int .i64 f2, .int .i64 f3, .int .i64 f4, .int .i64 f5]).alloc (.cells #[.int .i64 0, .int .i64 0, .slice none 0 0] 34)
  have kR := Blk.new ((w.alloc (.cells #[.int .i64 sz, .int .i64 st, .slice A n c] 34)).alloc (.cells #[.int .i64 f1, .int .i64 f2, .int .i64 f3, .int .i64 f4, .int .i64 f5] 54)) 34 #[.int .i64 0, .int .i64 0, .slice none 0 0]
  simp only [World.size_alloc] at kF kR
  go_enter Try.func61, Try.ntmps61
  go_upto_region 1 with fail
  obtain ⟨w0, hw0⟩ : ∃ w0, w0 = ((w.alloc (.cells #[.int .i64 sz, .int .i64 st, .slice A n c] 34)).alloc (.cells #[.int .i64 f1, .int .i64 f2, .int .i64 f3, .int .i64 f4, .int .i64 f5] 54)).alloc (.cells #[.int .i64 0, .int .i64 0, .slice none 0 0] 34) := ⟨_, rfl⟩
  have hsz : w0.heap.size = w.heap.size + 1 + 1 + 1 := by rw [hw0]; simp
  rw [← hw0] at b0 kT kF kR ⊢
  clear hw0
  have s0 := hS.below b0 hhi
  obtain ⟨t0, t1, t2, _⟩ := kT.three_
  go_cut [31] from 12 to 31 (fun v wx => ∃ bad : Bool, v = .bool bad ∧ (bad = false → tabV sz st es = true) ∧ Below w0.heap.size w0 wx)
  case first =>
    go_wp2_with fail
    refine (sTab_any _ _ _ _ _ es _ s0 (by omega) (by omega) hnc hmx).mono ?_
    rintro e w1 ⟨rfl, b1⟩
    obtain ⟨u0, u1, u2, u3, u4⟩ : w1.cell? ⟨w.heap.size + 1, 0, none⟩ = some (.int .i64 f1) ∧ w1.cell? ⟨w.heap.size + 1, 1, none⟩ = some (.int .i64 f2) ∧ w1.cell? ⟨w.heap.size + 1, 2, none⟩ = some (.int .i64 f3) ∧ w1.cell? ⟨w.heap.size + 1, 3, none⟩ = some (.int .i64 f4) ∧ w1.cell? ⟨w.heap.size + 1, 4, none⟩ = some (.int .i64 f5) := by
      have k := kF.below b1 kF.lt
      exact ⟨k.cell 0, k.cell 1, k.cell 2, k.cell 3, k.cell 4⟩
    by_cases ht : tabV sz st es = true
    · rw [ht]
      go_wp2_with fail
      refine (sFlow_is _ _ _ _ _ _).mono ?_
      rintro e w2 ⟨rfl, hw2⟩
      have b2 : Below w0.heap.size w0 w2 := by rw [hw2]; exact b1.alloc b1.size _
      clear hw2 u0 u1 u2 u3 u4 b1
      cases flowV f1 f2 f3 f4 f5
      · go_wp2_with fail
        go_meet
        exact ⟨true, rfl, fun h => absurd h (by simp), b2⟩
      · go_wp2_with fail
        refine (l1In_any _ _ _ _).mono ?_
        rintro e w' ⟨rfl, rfl⟩
        have kT2 := kT.below b2 kT.lt
        clear t0 t1 t2
        obtain ⟨t0, t1, t2, _⟩ := kT2.three_
        cases inB x 0 30
        · go_wp2_with fail
          go_meet
          exact ⟨true, rfl, fun h => absurd h (by simp), b2⟩
        · go_wp2_with fail
          refine (sLast_any _ _ _ _ _ es _ (s0.below b2 (by omega)) (by have := b2.size; omega) (by omega)).mono ?_
          rintro e w3 ⟨⟨z, rfl⟩, b3⟩
          have b4 := b2.trans (b3.mono b2.size)
          go_wp2_with fail
          refine (l1In_any _ _ _ _).mono ?_
          rintro e w' ⟨rfl, rfl⟩
          cases inB now z 100000
          · go_wp2_with fail
            go_meet
            exact ⟨true, rfl, fun h => absurd h (by simp), b4⟩
          · go_wp2_with fail
            go_meet
            exact ⟨false, rfl, fun h => ht, b4⟩
    · rw [Bool.eq_false_iff.2 ht]
      go_wp2_with fail
      go_meet
      exact ⟨true, rfl, fun h => absurd h (by simp), b1⟩
  case rest =>
    obtain ⟨bad, rfl, hgood, b1⟩ := hcut
    generalize wc = w1 at b1 ⊢
    have kT1 := kT.below b1 kT.lt
    have kF1 := kF.below b1 kF.lt
    have kR1 := kR.below b1 kR.lt
    have s1 := s0.below b1 (by omega)
    have bw1 := b0.trans (b1.mono b0.size)
    have hz1' := b1.size
    clear t0 t1 t2 kT kF kR s0 b0 b1
    cases bad
    · replace hgood := hgood rfl
      obtain ⟨t0, t1, t2, _⟩ := kT1.three_
      go_wp2_with fail
      refine (sCopy_any _ _ _ _ _ es _ s1 (by omega) (by omega) hnc).mono ?_
      rintro e w2 ⟨A1, c1, rfl, q1, q2, own2, b2⟩
      have kT2 := (kT1.below b2 kT1.lt).alloc (.cells #[.int .i64 sz, .int .i64 st, .slice A1 n c1] 34)
      have kF2 := (kF1.below b2 kF1.lt).alloc (.cells #[.int .i64 sz, .int .i64 st, .slice A1 n c1] 34)
      have kR2 := (kR1.below b2 kR1.lt).alloc (.cells #[.int .i64 sz, .int .i64 st, .slice A1 n c1] 34)
      have kC2 := Blk.new w2 34 #[.int .i64 sz, .int .i64 st, .slice A1 n c1]
      have own2' := own2.alloc (.cells #[.int .i64 sz, .int .i64 st, .slice A1 n c1] 34)
      have bw2 := bw1.trans (b2.mono bw1.size)
      have bw2' := bw2.alloc bw2.size (.cells #[.int .i64 sz, .int .i64 st, .slice A1 n c1] 34)
      have hqC : w.heap.size + 1 + 1 < w2.heap.size := by have := b2.size; omega
      clear t0 t1 t2
      obtain ⟨t0, t1, t2, _⟩ := kT2.three_
      obtain ⟨u0, u1, u2, u3, u4⟩ : (w2.alloc (.cells #[.int .i64 sz, .int .i64 st, .slice A1 n c1] 34)).cell? ⟨w.heap.size + 1, 0, none⟩ = some (.int .i64 f1) ∧ (w2.alloc (.cells #[.int .i64 sz, .int .i64 st, .slice A1 n c1] 34)).cell? ⟨w.heap.size + 1, 1, none⟩ = some (.int .i64 f2) ∧ (w2.alloc (.cells #[.int .i64 sz, .int .i64 st, .slice A1 n c1] 34)).cell? ⟨w.heap.size + 1, 2, none⟩ = some (.int .i64 f3) ∧ (w2.alloc (.cells #[.int .i64 sz, .int .i64 st, .slice A1 n c1] 34)).cell? ⟨w.heap.size + 1, 3, none⟩ = some (.int .i64 f4) ∧ (w2.alloc (.cells #[.int .i64 sz, .int .i64 st, .slice A1 n c1] 34)).cell? ⟨w.heap.size + 1, 4, none⟩ = some (.int .i64 f5) := ⟨kF2.cell 0, kF2.cell 1, kF2.cell 2, kF2.cell 3, kF2.cell 4⟩
      go_wp2_with fail
      refine (sPlace_any _ _ _ es f1 f2 f3 f4 f5 0 0 _ (hS.below bw2' hhi) (by have := bw2'.size; omega) (by omega)).mono ?_
      rintro e w3 ⟨rfl, b3⟩
      obtain ⟨pl, hpl⟩ : ∃ pl, plF es ⟨f1, f2, f3, f4, f5, 0, 0⟩ = pl := ⟨_, rfl⟩
      have hpb := plF_bd es ⟨f1, f2, f3, f4, f5, 0, 0⟩
      rw [HL.out, hpl] at hpb
      rw [hpl]
      have kT3 := kT2.below b3 kT2.lt
      have kF3 := kF2.below b3 kF2.lt
      have kR3 := kR2.below b3 kR2.lt
      have kC3 := kC2.below b3 kC2.lt
      have own3 := own_base (own_below own2' b3) bw1.size
      have bw3 := bw2'.trans (b3.mono bw2'.size)
      have hszp := (tab_facts hgood).1
      clear t0 t1 t2 u0 u1 u2 u3 u4 hpl kT1 kF1 kR1 kT2 kF2 kR2 kC2 own2 own2' bw2 bw2' b2 b3 s1
      obtain ⟨t0, t1, t2, _⟩ := kT3.three_
      go_upto_region 5 with fail
      go_cut [48] from 39 to 47 (fun v wx => (∃ bb : Bool, v = .bool bb ∧ (bb = true → 0 < n) ∧ (bb = false → -1 ≤ pl)) ∧ wx = w3)
      case first =>
        by_cases hneg : pl < 0
        · have hnegb : decide (pl < 0) = true := decide_eq_true hneg
          by_cases hnz : (n : Int) = sz
          · have hnzb : ((n : Int) == sz) = true := by simpa using hnz
            go_wp2_with fail
            go_meet
            exact ⟨⟨true, rfl, fun _ => by omega, fun _ => by omega⟩, rfl⟩
          · have hnzb : ((n : Int) == sz) = false := by simpa using hnz
            go_wp2_with fail
            go_meet
            exact ⟨⟨false, rfl, fun h => absurd h (by simp), fun _ => by omega⟩, rfl⟩
        · have hnegb : decide (pl < 0) = false := decide_eq_false hneg
          go_wp2_with fail
          go_meet
          exact ⟨⟨false, rfl, fun h => absurd h (by simp), fun _ => by omega⟩, rfl⟩
      case rest =>
       obtain ⟨⟨bb, rfl, hb1, hb2⟩, hwc0⟩ := hcut
       obtain rfl : w3 = wc := hwc0.symm
       have HB1 := Lib.hid hb1
       have HB2 := Lib.hid hb2
       clear hb1 hb2
       go_upto_if 48 with fail
       go_cut [11] from 39 to 48 (fun v wx => (∃ at' : Int, v = .int .i64 at' ∧ -1 ≤ at' ∧ at' < (n : Int)) ∧ wx = w3)
       case first =>
        cases bb
        · go_wp2_with fail
          go_meet
          have : -1 ≤ pl := by first | exact HB2.out rfl | exact HB2.out trivial
          exact ⟨⟨_, rfl, this, by omega⟩, rfl⟩
        · go_wp2_with fail
          go_meet
          have : 0 < n := by first | exact HB1.out rfl | exact HB1.out trivial
          exact ⟨⟨_, rfl, by omega, by omega⟩, rfl⟩
       case rest =>
        obtain ⟨⟨at', rfl, ha0, ha1⟩, hwc⟩ := hcut
        obtain rfl : w3 = wc := hwc.symm
        go_upto_if 50 with fail
        go_cut [11] from 49 to 63 (fun v wx => (∃ u : Int, v = .int .i64 u) ∧ ∃ (A' : Option Addr) (m' c' : Nat) (es' : List En7), Blk wx w2.heap.size 34 #[.int .i64 sz, .int .i64 st, .slice A' m' c'] ∧ wx.ownsRow w.heap.size 56 7 (.slice A' m' c') m' (ensV es') ∧ m' ≤ n ∧ Blk wx (w.heap.size + 1) 54 #[.int .i64 f1, .int .i64 f2, .int .i64 f3, .int .i64 f4, .int .i64 f5] ∧ Blk wx (w.heap.size + 1 + 1) 34 #[.int .i64 0, .int .i64 0, .slice none 0 0] ∧ Below w.heap.size w wx)
        case first =>
          by_cases hge : 0 ≤ at'
          · have hgeb : decide (0 ≤ at') = true := decide_eq_true hge
            obtain ⟨k, rfl⟩ : ∃ k : Nat, at' = (k : Int) := ⟨at'.toNat, by omega⟩
            have hk : k < n := by omega
            obtain ⟨b, off, rfl, _, _, _⟩ := hS.2 (by omega)
            go_upto_region 8 with fail
            have ownE : ((w3.alloc (.cells #[] 56)).drew).ownsRow w3.heap.size 56 7 (.slice (some ⟨w3.heap.size, 0, none⟩) 0 0) 0 [] := (World.ownsRow_lit (base := w3.heap.size) (e := 56) (size := 7) w3 #[] 0 (Nat.le_refl _) (by unfold maxLen; omega) (by simp)).drew
            have bE := ((Below.refl w3.heap.size w3).alloc (Nat.le_refl _) (.cells #[] 56)).drew
            have slT := (((hS.below bw3 hhi).alloc (by have := bw3.size; omega) (.cells #[] 56)).drew).take (k := k) (by omega)
            have HCUT : RowKit.Hid ([] ++ (ensV es).take (k * 7) ++ (ensV es).drop ((k + 1) * 7) = ensV (es.take k ++ es.drop (k + 1))) := Lib.hid (by
              rw [List.nil_append]
              show _ = recV enC _
              rw [recV_append]
              show (recV enC es).take _ ++ (recV enC es).drop _ = _
              rw [recV_take enC_len, recV_drop enC_len])
            obtain ⟨k1, hk1⟩ : ∃ k1 : Nat, k1 = k + 1 := ⟨_, rfl⟩
            have hkK : (k : Int) + 1 = (k1 : Int) := by omega
            have hka : (k : Int) ≤ (c : Int) := by omega
            have hkb : (k1 : Int) ≤ (n : Int) := by omega
            have hkc : (n : Int) ≤ (c : Int) := by omega
            have hkd : (0 : Int) ≤ (k1 : Int) := by omega
            have hke : (k1 : Int) ≤ (c : Int) := by omega
            have hkf : (0 : Int) ≤ (k : Int) := by omega
            have hkg : k1 ≤ n := by omega
            have hkw : IntKind.i64.wrap (k1 : Int) = (k1 : Int) := IntWalk.i64_in _ (by omega)
            have hkh : n ≤ 1048576 := by omega
            rw [← hk1] at HCUT
            have HK1 := Lib.hid hk1
            clear hk1
            by_cases hck : c = k1
            · have hSD : Sl w lo hi 7 (some ⟨b, off, none⟩) (n - k1) ((ensV es).drop (k1 * 7)) := by
                have := hS.cut (k := k1) (cap := c) (by omega) hnc
                rwa [if_pos hck] at this
              subst hck
              have hlen : 0 + k + (n - c) = n - 1 := by have := HK1.out; omega
              have hlen0 : 0 + k + 0 = n - 1 := by have := HK1.out; omega
              have hnc0 : n - c = 0 := by omega
              go_region_held_law (fun w' => w'.cell? ⟨w.heap.size, 2, none⟩ = some (.slice (some ⟨b, off, none⟩) n c)) (first | go_keep | exact ks5 | exact ks6 | exact ks7 _ | exact t2) (first | (refine step_append_sl (o := ⟨some 56, _, _, _, _, _⟩) _ (by rfl) _ _ 32 (by rfl) w3.heap.size 56 i0 _ 7 56 Try.underlying32 hi0 hz0 hz1 hz2 tzc (by decide) _ 0 _ (by rfl) ownE _ _ (some ⟨b, off, none⟩) k c ((ensV es).take (k * 7)) (by rfl) slT (fun u hu => ens_ones es u (List.mem_of_mem_take hu)) (by unfold maxLen; omega) (by omega) (by simp) ?_; intro v5 w5 own5 g5 at5; have kT5 := ((kT3.alloc (.cells #[] 56)).drew).grown g5 (fun e => by have e' : w.heap.size = w3.heap.size := (by simpa [Value.ownBlock] using e); have := kT3.lt; omega); have kF5 := ((kF3.alloc (.cells #[] 56)).drew).grown g5 (fun e => by have e' : (w.heap.size + 1) = w3.heap.size := (by simpa [Value.ownBlock] using e); have := kF3.lt; omega); have kR5 := ((kR3.alloc (.cells #[] 56)).drew).grown g5 (fun e => by have e' : (w.heap.size + 1 + 1) = w3.heap.size := (by simpa [Value.ownBlock] using e); have := kR3.lt; omega); have kC5 := ((kC3.alloc (.cells #[] 56)).drew).grown g5 (fun e => by have e' : w2.heap.size = w3.heap.size := (by simpa [Value.ownBlock] using e); have := kC3.lt; omega); have ks5 : w5.cell? ⟨w.heap.size, 2, none⟩ = some (.slice (some ⟨b, off, none⟩) n c) := kT5.cell 2; have b5 := below_append bE ownE g5; have slD := (hSD.below (bw3.trans (b5.mono bw3.size)) hhi)) | (refine step_append_sl (o := ⟨some 62, _, _, _, _, _⟩) _ (by rfl) _ _ 32 (by rfl) w3.heap.size 56 i0 _ 7 56 Try.underlying32 hi0 hz0 hz1 hz2 tzc (by decide) _ (0 + k) _ (by rfl) own5 _ _ (some ⟨b, off, none⟩) (n - c) 0 ((ensV es).drop (c * 7)) (by rfl) slD (fun u hu => ens_ones es u (List.mem_of_mem_drop hu)) (by unfold maxLen; omega) (by omega) b5.size ?_; intro v6 w6 own6 g6 at6; rw [hlen] at own6; obtain ⟨A6, c6, rfl, q5, q6⟩ := own_is_slice own6; have kT6 := kT5.grown g6 (fun e => by have := (own5.lt _ e.symm).1; have := kT3.lt; omega); have kF6 := kF5.grown g6 (fun e => by have := (own5.lt _ e.symm).1; have := kF3.lt; omega); have kR6 := kR5.grown g6 (fun e => by have := (own5.lt _ e.symm).1; have := kR3.lt; omega); have kC6 := kC5.grown g6 (fun e => by have := (own5.lt _ e.symm).1; have := kC3.lt; omega); have ks6 : w6.cell? ⟨w.heap.size, 2, none⟩ = some (.slice (some ⟨b, off, none⟩) n c) := kT6.cell 2; have ks7 : ∀ u, (w6.setCell ⟨w2.heap.size, 2, none⟩ u).cell? ⟨w.heap.size, 2, none⟩ = some (.slice (some ⟨b, off, none⟩) n c) := (fun u => (World.cell?_setCell_other w6 _ _ u (fun e => by have := congrArg Addr.block e; simp at this; omega)).trans ks6); have b6 := below_append b5 own5 g6; obtain ⟨d0, d1, d2, df⟩ := kC6.three_) | (refine step_append_sl (o := ⟨some 62, _, _, _, _, _⟩) _ (by rfl) _ _ 32 (by rfl) w3.heap.size 56 i0 _ 7 56 Try.underlying32 hi0 hz0 hz1 hz2 tzc (by decide) _ (0 + k) _ (by rfl) own5 _ _ (some ⟨b, off, none⟩) 0 0 ((ensV es).drop (c * 7)) (by rfl) (hnc0 ▸ slD) (fun u hu => ens_ones es u (List.mem_of_mem_drop hu)) (by unfold maxLen; omega) (by omega) b5.size ?_; intro v6 w6 own6 g6 at6; rw [hlen0] at own6; obtain ⟨A6, c6, rfl, q5, q6⟩ := own_is_slice own6; have kT6 := kT5.grown g6 (fun e => by have := (own5.lt _ e.symm).1; have := kT3.lt; omega); have kF6 := kF5.grown g6 (fun e => by have := (own5.lt _ e.symm).1; have := kF3.lt; omega); have kR6 := kR5.grown g6 (fun e => by have := (own5.lt _ e.symm).1; have := kR3.lt; omega); have kC6 := kC5.grown g6 (fun e => by have := (own5.lt _ e.symm).1; have := kC3.lt; omega); have ks6 : w6.cell? ⟨w.heap.size, 2, none⟩ = some (.slice (some ⟨b, off, none⟩) n c) := kT6.cell 2; have ks7 : ∀ u, (w6.setCell ⟨w2.heap.size, 2, none⟩ u).cell? ⟨w.heap.size, 2, none⟩ = some (.slice (some ⟨b, off, none⟩) n c) := (fun u => (World.cell?_setCell_other w6 _ _ u (fun e => by have := congrArg Addr.block e; simp at this; omega)).trans ks6); have b6 := below_append b5 own5 g6; obtain ⟨d0, d1, d2, df⟩ := kC6.three_))
              all_goals
                go_wp2_with fail
                go_meet
                rw [HCUT.out] at own6
                exact ⟨⟨_, rfl⟩, A6, n - 1, c6, _, kC6.set_ 2 _, own_set1 (own_base own6 bw3.size) (own_neN own6 kC6 (by decide)), by omega, kF6.far (by show w.heap.size + 1 ≠ w2.heap.size; omega) _, kR6.far (by show w.heap.size + 1 + 1 ≠ w2.heap.size; omega) _, (bw3.trans (b6.mono bw3.size)).setCell (show w.heap.size ≤ w2.heap.size by omega) _⟩
            · have hSD : Sl w lo hi 7 (some ⟨b, off + k1 * 7, none⟩) (n - k1) ((ensV es).drop (k1 * 7)) := by
                have := hS.cut (k := k1) (cap := c) (by omega) hnc
                rw [if_neg hck] at this
                rw [Option.map_some, addr_add] at this
                exact this
              have hlen : 0 + k + (n - k1) = n - 1 := by have := HK1.out; omega
              go_region_held_law (fun w' => w'.cell? ⟨w.heap.size, 2, none⟩ = some (.slice (some ⟨b, off, none⟩) n c)) (first | go_keep | exact ks5 | exact ks6 | exact ks7 _ | exact t2) (first | (refine step_append_sl (o := ⟨some 56, _, _, _, _, _⟩) _ (by rfl) _ _ 32 (by rfl) w3.heap.size 56 i0 _ 7 56 Try.underlying32 hi0 hz0 hz1 hz2 tzc (by decide) _ 0 _ (by rfl) ownE _ _ (some ⟨b, off, none⟩) k c ((ensV es).take (k * 7)) (by rfl) slT (fun u hu => ens_ones es u (List.mem_of_mem_take hu)) (by unfold maxLen; omega) (by omega) (by simp) ?_; intro v5 w5 own5 g5 at5; have kT5 := ((kT3.alloc (.cells #[] 56)).drew).grown g5 (fun e => by have e' : w.heap.size = w3.heap.size := (by simpa [Value.ownBlock] using e); have := kT3.lt; omega); have kF5 := ((kF3.alloc (.cells #[] 56)).drew).grown g5 (fun e => by have e' : (w.heap.size + 1) = w3.heap.size := (by simpa [Value.ownBlock] using e); have := kF3.lt; omega); have kR5 := ((kR3.alloc (.cells #[] 56)).drew).grown g5 (fun e => by have e' : (w.heap.size + 1 + 1) = w3.heap.size := (by simpa [Value.ownBlock] using e); have := kR3.lt; omega); have kC5 := ((kC3.alloc (.cells #[] 56)).drew).grown g5 (fun e => by have e' : w2.heap.size = w3.heap.size := (by simpa [Value.ownBlock] using e); have := kC3.lt; omega); have ks5 : w5.cell? ⟨w.heap.size, 2, none⟩ = some (.slice (some ⟨b, off, none⟩) n c) := kT5.cell 2; have b5 := below_append bE ownE g5; have slD := (hSD.below (bw3.trans (b5.mono bw3.size)) hhi)) | (refine step_append_sl (o := ⟨some 62, _, _, _, _, _⟩) _ (by rfl) _ _ 32 (by rfl) w3.heap.size 56 i0 _ 7 56 Try.underlying32 hi0 hz0 hz1 hz2 tzc (by decide) _ (0 + k) _ (by rfl) own5 _ _ (some ⟨b, off + k1 * 7, none⟩) (n - k1) (c - k1) ((ensV es).drop (k1 * 7)) (by rfl) slD (fun u hu => ens_ones es u (List.mem_of_mem_drop hu)) (by unfold maxLen; omega) (by omega) b5.size ?_; intro v6 w6 own6 g6 at6; rw [hlen] at own6; obtain ⟨A6, c6, rfl, q5, q6⟩ := own_is_slice own6; have kT6 := kT5.grown g6 (fun e => by have := (own5.lt _ e.symm).1; have := kT3.lt; omega); have kF6 := kF5.grown g6 (fun e => by have := (own5.lt _ e.symm).1; have := kF3.lt; omega); have kR6 := kR5.grown g6 (fun e => by have := (own5.lt _ e.symm).1; have := kR3.lt; omega); have kC6 := kC5.grown g6 (fun e => by have := (own5.lt _ e.symm).1; have := kC3.lt; omega); have ks6 : w6.cell? ⟨w.heap.size, 2, none⟩ = some (.slice (some ⟨b, off, none⟩) n c) := kT6.cell 2; have ks7 : ∀ u, (w6.setCell ⟨w2.heap.size, 2, none⟩ u).cell? ⟨w.heap.size, 2, none⟩ = some (.slice (some ⟨b, off, none⟩) n c) := (fun u => (World.cell?_setCell_other w6 _ _ u (fun e => by have := congrArg Addr.block e; simp at this; omega)).trans ks6); have b6 := below_append b5 own5 g6; obtain ⟨d0, d1, d2, df⟩ := kC6.three_))
              all_goals
                go_wp2_with fail
                go_meet
                rw [HCUT.out] at own6
                exact ⟨⟨_, rfl⟩, A6, n - 1, c6, _, kC6.set_ 2 _, own_set1 (own_base own6 bw3.size) (own_neN own6 kC6 (by decide)), by omega, kF6.far (by show w.heap.size + 1 ≠ w2.heap.size; omega) _, kR6.far (by show w.heap.size + 1 + 1 ≠ w2.heap.size; omega) _, (bw3.trans (b6.mono bw3.size)).setCell (show w.heap.size ≤ w2.heap.size by omega) _⟩
          · have hgeb : decide (0 ≤ at') = false := decide_eq_false hge
            go_wp2_with fail
            go_meet
            exact ⟨⟨_, rfl⟩, A1, n, c1, es, kC3, own3, Nat.le_refl _, kF3, kR3, bw3⟩
        case rest =>
          obtain ⟨⟨_, rfl⟩, A4, m4, c4, es4, kC4, own4, hm4, kF4, kR4, bw4⟩ := hcut
          generalize wc = w4 at kC4 own4 kF4 kR4 bw4 ⊢
          obtain ⟨g0, g1, g2, _⟩ := kC4.three_
          obtain ⟨u0, u1, u2, u3, u4⟩ : w4.cell? ⟨w.heap.size + 1, 0, none⟩ = some (.int .i64 f1) ∧ w4.cell? ⟨w.heap.size + 1, 1, none⟩ = some (.int .i64 f2) ∧ w4.cell? ⟨w.heap.size + 1, 2, none⟩ = some (.int .i64 f3) ∧ w4.cell? ⟨w.heap.size + 1, 3, none⟩ = some (.int .i64 f4) ∧ w4.cell? ⟨w.heap.size + 1, 4, none⟩ = some (.int .i64 f5) := ⟨kF4.cell 0, kF4.cell 1, kF4.cell 2, kF4.cell 3, kF4.cell 4⟩
          have hbz := bw4.size
          go_wp2_with (at_builtin; (refine wpList_append_sl _ rfl _ _ 32 rfl w.heap.size 56 i0 _ 7 56 Try.underlying32 hi0 hz0 hz1 hz2 tzc (by decide) (.slice A4 m4 c4) m4 _ (by rfl) (own4.alloc _) _ _ (some ⟨w4.heap.size, 0, none⟩) 1 1 (#[.int .i64 f1, .int .i64 f2, .int .i64 f3, .int .i64 f4, .int .i64 f5, .int .i64 x, .int .i64 now] : Array Value).toList rfl (Sl.new #[.int .i64 f1, .int .i64 f2, .int .i64 f3, .int .i64 f4, .int .i64 f5, .int .i64 x, .int .i64 now] 56 7 1 rfl) (seven_one _ _ _ _ _ _ _) (by unfold maxLen; omega) (by omega) (by simp; omega) ?_; intro v5 w5 own5 g5 at5; obtain ⟨A5, c5, rfl, q5, q6⟩ := own_is_slice own5; have kC5 := (kC4.alloc (.cells #[.int .i64 f1, .int .i64 f2, .int .i64 f3, .int .i64 f4, .int .i64 f5, .int .i64 x, .int .i64 now] 56)).grown g5 (fun e => own_neN own4 kC4 (by decide) e.symm); have kR5 := (kR4.alloc (.cells #[.int .i64 f1, .int .i64 f2, .int .i64 f3, .int .i64 f4, .int .i64 f5, .int .i64 x, .int .i64 now] 56)).grown g5 (fun e => own_neN own4 kR4 (by decide) e.symm); obtain ⟨d0, d1, d2, df⟩ := kC5.three_; obtain ⟨e0, e1, e2, ef⟩ := kR5.three_))
          have bw5 := below_append (bw4.alloc hbz (.cells #[.int .i64 f1, .int .i64 f2, .int .i64 f3, .int .i64 f4, .int .i64 f5, .int .i64 x, .int .i64 now] 56)) (own4.alloc (.cells #[.int .i64 f1, .int .i64 f2, .int .i64 f3, .int .i64 f4, .int .i64 f5, .int .i64 x, .int .i64 now] 56)) g5
          rw [ensV_snoc] at own5
          have nC := own_neN own5 kC5 (by decide)
          have nR := own_neN own5 kR5 (by decide)
          have hne1 : w.heap.size + 1 + 1 ≠ w2.heap.size := by omega
          have KR := (kR5.far (p := ⟨w2.heap.size, 2, none⟩) hne1 (.slice A5 (m4 + 1) c5)).set3 (.int .i64 sz) (.int .i64 st) (.slice A5 (m4 + 1) c5)
          have own6 := own_set3 (own_set1 (i := 2) (u := .slice A5 (m4 + 1) c5) own5 nC) nR (.int .i64 sz) (.int .i64 st) (.slice A5 (m4 + 1) c5)
          have bw6 := below_set3 (bw5.setCell (p := ⟨w2.heap.size, 2, none⟩) (show w.heap.size ≤ w2.heap.size by omega) (.slice A5 (m4 + 1) c5)) (show w.heap.size ≤ w.heap.size + 1 + 1 by omega) (.int .i64 sz) (.int .i64 st) (.slice A5 (m4 + 1) c5)
          obtain ⟨w6, hw6⟩ : ∃ w6, w6 = set3 (w5.setCell ⟨w2.heap.size, 2, none⟩ (.slice A5 (m4 + 1) c5)) (w.heap.size + 1 + 1) (.int .i64 sz) (.int .i64 st) (.slice A5 (m4 + 1) c5) := ⟨_, rfl⟩
          unfold set3 at hw6 KR own6 bw6
          rw [← hw6] at KR own6 bw6 ⊢
          obtain ⟨x0, x1, x2, _⟩ := KR.three_
          refine bodyPost_ret (v := .tuple #[.agg #[.int .i64 sz, .int .i64 st, .slice A5 (m4 + 1) c5], .bool true]) ?_ rfl ⟨sz, st, A5, m4 + 1, c5, _, true, rfl, by omega, q5, q6, own6, bw6⟩
          simp [results, Try.results61, go_sem, x0, x1, x2]
    · obtain ⟨d0, d1, d2, df⟩ := kR1.three_
      go_wp2
      have K6 := kR1.set3 (.int .i64 0) (.int .i64 0) (.slice none 0 0)
      have b6 := below_set3 bw1 (show w.heap.size ≤ w.heap.size + 1 + 1 by omega) (.int .i64 0) (.int .i64 0) (.slice none 0 0)
      obtain ⟨w6, hw6⟩ : ∃ w6, w6 = set3 w1 (w.heap.size + 1 + 1) (.int .i64 0) (.int .i64 0) (.slice none 0 0) := ⟨_, rfl⟩
      unfold set3 at hw6 K6 b6
      rw [← hw6] at K6 b6 ⊢
      obtain ⟨x0, x1, x2, _⟩ := K6.three_
      refine bodyPost_ret (v := .tuple #[.agg #[.int .i64 0, .int .i64 0, .slice none 0 0], .bool false]) ?_ rfl ⟨0, 0, none, 0, 0, [], false, rfl, by omega, Nat.le_refl _, by unfold maxLen; omega, World.ownsRow_nil _ _ _ _, b6⟩
      simp [results, Try.results61, go_sem, x0, x1, x2]
end Go.Proofs.Ytgdcfhifiincaaa
