/-
  DrawUnwrapPacket: a packet and an address.
-/
import Derived.Test.YtleammkpfknngaaDrawPkt0
import Derived.Test.YtleammkpfknngaaWrap
import Derived.Deep.CutBlock
namespace Go.Proofs.Ytleammkpfknngaa
open Go.RowKit
set_option linter.unusedVariables false

def DrawnUnwrap (W : World) (e : Ending) (w' : World) : Prop :=
  ∃ (f t k l : Int) (A : Option Addr) (n c : Nat) (zs : List Int) (to1 : Int), e = .returned (.tuple #[.agg #[.int .i64 f, .int .i64 t, .int .i64 k, .int .i64 l, .slice A n c], .int .i64 to1]) ∧ n ≤ 87 ∧ n ≤ c ∧ c ≤ maxLen ∧ AllByte zs ∧ Sl w' W.heap.size w'.heap.size 1 A n (zs.map (Value.int .u8)) ∧ 0 ≤ to1 ∧ to1 ≤ 3 ∧ Below W.heap.size W w'
theorem Dw.trans {W w w' : World} {g P P' : Nat} (h : Dw W g P w) (h1 : Dw w g P' w') : Dw W g P' w' := ⟨h1.rd, grown_trans h.gr h1.gr (fun k hk => .inl (by cases hk; rfl)), h.lt, h1.c0.trans h.c0⟩
theorem own_drew {W w w' : World} {g P B size n : Nat} {e : TypeId} {v : Value} {xs : List Value} (h : w.ownsRow B e size v n xs) (hd : Dw w g P w') (hB : g < B) : w'.ownsRow B e size v n xs := own_picked h hd.gr hB
theorem wrB_byte {f t k l : Int} {zs : List Int} {fr tt : Int} (hz : AllByte zs) : AllByte (wrB f t k l zs fr tt) := by
  unfold wrB
  split
  · exact putP_byte hz
  · exact fun z hz => absurd hz (by simp)

set_option maxRecDepth 10000 in
set_option maxHeartbeats 3200000 in
theorem drawUnwrapPacket_any (A : Option Addr) (n c : Nat) (zs : List Int) (w : World) (hs : Sl w 0 w.heap.size 1 A n (zs.map (Value.int .u8))) (hnc : n ≤ c) (hc : c ≤ 9223372036854775807) (hz : AllByte zs) :
    Calls Try.prog 37 #[.slice A n c] w (DrawnUnwrap w) := by
  have b0 := (Below.refl w.heap.size w).alloc (Nat.le_refl _) (.cells #[.int .i64 0, .int .i64 0, .int .i64 0, .int .i64 0, .slice none 0 0] 27)
  have K0 := Blk.new w 27 #[.int .i64 0, .int .i64 0, .int .i64 0, .int .i64 0, .slice none 0 0]
  go_enter Try.func37, Try.ntmps37
  go_wp2_with fail
  refine (open_anyX w.heap.size _ _ _ zs _ (by simp) (hs.alloc (Nat.le_refl _) _) hnc hc hz).mono ?_
  rintro e w1 ⟨g, hg, rfl, hr, b1, A0, n0, c0, zs0, hz0, hcell, hsl⟩
  have K1 := K0.below b1 (by simp)
  have b01 := b0.trans (b1.mono (by simp))
  simp only [World.size_alloc] at hg
  have D1 := Dw.start hr
  have hwg : w.heap.size < g := by omega
  clear K0 b0 b1
  go_wp2_with fail
  refine (pick_any _ _ _ _ D1.rd (by omega) (by omega) (by omega)).mono ?_
  rintro e w2 ⟨to0, to1, to2, rfl, hr2, hg2⟩
  have D2 := D1.picked hr2 hg2
  clear hr2 hg2 D1
  go_wp2_with fail
  refine (packet0_any _ _ _ D2.rd (by omega)).mono ?_
  rintro e w4 ⟨f, t, k, l, B, m, mc, ps, rfl, hv, hmc, hmx, hps, own4, D4'⟩
  have hgw2 : g < w2.heap.size := D2.rd.lt
  have D4 := D2.trans D4'
  clear D2 D4'
  have hv5 := (pktV_iff.1 hv).2.2.2.2
  go_wp2_with fail
  refine (pick_any _ _ _ _ D4.rd (by omega) (by omega) (by omega)).mono ?_
  rintro e w5 ⟨fr, fr1, fr2, rfl, hr5, hg5⟩
  have D5 := D4.picked hr5 hg5
  have own5 := own_picked own4 hg5 hgw2
  have hgw5 : g < w5.heap.size := D5.rd.lt
  clear hr5 hg5 D4 own4
  go_wp2_with fail
  refine (sWrapPacket_any _ _ _ _ _ _ _ ps _ _ _ (Sl.of_own own5) (Nat.le_refl _) hmc hmx (by omega) hps).mono ?_
  have hrl : (wrB f t k l ps fr to0).length ≤ 86 := wrB_len
  have hrb : AllByte (wrB f t k l ps fr to0) := wrB_byte hps
  generalize wrF f t k l ps fr to0 fr = r1
  generalize wrF f t k l ps fr to0 to0 = r2
  generalize wrF f t k l ps fr to0 3 = r3
  generalize wrF f t k l ps fr to0 64 = r4
  generalize wrB f t k l ps fr to0 = ps' at hrl hrb ⊢
  generalize wrV f t k l ps fr to0 = ok
  rintro e w6 ⟨A6, m6, c6, rfl, hm6, R6, b6⟩
  rw [hm6] at hrl
  have HM6 := Lib.hid hm6
  clear hm6
  have D6 := D5.below b6 D5.size_
  have z6 := b6.size
  clear D5 own5 b6 hps hv5 hv
  have hps' := hrb
  have hcap := own_is_slice R6
  obtain ⟨A', c', e, hc1, hc2⟩ := hcap
  cases e
  clear hrb
  go_upto_region 4 with fail
  have Q7 := Blk.new w6 27 #[.int .i64 r1, .int .i64 r2, .int .i64 r3, .int .i64 r4, .slice A6 m6 c6]
  have D7 := D6.alloc (.cells #[.int .i64 r1, .int .i64 r2, .int .i64 r3, .int .i64 r4, .slice A6 m6 c6] 27)
  have R7 := R6.alloc (.cells #[.int .i64 r1, .int .i64 r2, .int .i64 r3, .int .i64 r4, .slice A6 m6 c6] 27)
  have hq0 : w5.heap.size ≤ w6.heap.size := z6
  have hq1 : w1.heap.size ≤ w6.heap.size := D6.size_
  have y7 : w6.heap.size < (w6.alloc (.cells #[.int .i64 r1, .int .i64 r2, .int .i64 r3, .int .i64 r4, .slice A6 m6 c6] 27)).heap.size := by simp
  generalize hw7 : w6.alloc (.cells #[.int .i64 r1, .int .i64 r2, .int .i64 r3, .int .i64 r4, .slice A6 m6 c6] 27) = w7 at Q7 D7 R7 y7 ⊢
  obtain ⟨q, hq⟩ : ∃ q, w6.heap.size = q := ⟨_, rfl⟩
  rw [hq] at Q7 hq0 hq1 y7 ⊢
  clear hw7 hq D6 R6 z6
  have K7 := K1.grown D7.gr (by intro he; injection he with he; omega)
  have b7 := D7.out b01 (by omega)
  have hw1 := D7.size_
  have hQo : (Value.slice A6 m6 c6).ownBlock ≠ some q := own_ne R7 Q7 (by decide)
  cases ok
  · skip
    obtain ⟨d0, d1, d2, d3, d4, df⟩ := Q7.five_
    go_wp2_with fail
    clear d0 d1 d2 d3 d4 df
    clear R7 HM6 hps' hrl hc1 hc2
    refine (packet_any _ _ _ _ D7.rd (by omega) (by omega) (by omega)).mono ?_
    rintro e w9 ⟨f9, t9, k9, l9, A9, n9, c9, ps', rfl, h81, hnc9, hcm9, hps', R9, D9'⟩
    have hgw : g < w7.heap.size := D7.rd.lt
    have hqw : q < w7.heap.size := Q7.lt
    have D9 := D7.trans D9'
    have Q9 := Q7.grown D9'.gr (by intro he; injection he with he; omega)
    have K9 := K1.grown D9.gr (by intro he; injection he with he; omega)
    have QA := Q9.setFive (.int .i64 f9) (.int .i64 t9) (.int .i64 k9) (.int .i64 l9) (.slice A9 n9 c9)
    have DA := D9.setFive (show w1.heap.size ≤ q by omega) (.int .i64 f9) (.int .i64 t9) (.int .i64 k9) (.int .i64 l9) (.slice A9 n9 c9)
    have KA := K9.farFive (show w.heap.size ≠ q by omega) (.int .i64 f9) (.int .i64 t9) (.int .i64 k9) (.int .i64 l9) (.slice A9 n9 c9)
    have RA := own_set5 R9 (own_ne R9 Q9 (by decide)) (.int .i64 f9) (.int .i64 t9) (.int .i64 k9) (.int .i64 l9) (.slice A9 n9 c9)
    obtain ⟨d0, d1, d2, d3, d4, df⟩ := Q9.five_
    go_wp2_with fail
    clear d0 d1 d2 d3 d4 df
    obtain ⟨wA, hwA⟩ : ∃ wA, wA = set5 w9 q (.int .i64 f9) (.int .i64 t9) (.int .i64 k9) (.int .i64 l9) (.slice A9 n9 c9) := ⟨_, rfl⟩
    unfold set5 at hwA QA DA KA RA
    rw [← hwA] at QA DA KA RA ⊢
    clear hwA D9 D9' Q9 K9 R9 D7 K7 Q7
    have bA := DA.out b01 (by omega)
    clear b7
    have D3 := DA
    have K3 := KA
    have Q3 := QA
    have R3 := RA
    have b3 := bA
    have hsl3 := hsl.grown D3.gr (by have := D3.lt; omega) (fun x hx => by cases hx; left; omega)
    have hc3 := D3.c0.trans hcell
    clear DA KA QA RA
    have hqq := Q3.lt
    generalize wA = w3 at *
    obtain ⟨P1, hP1⟩ : ∃ x, 90000 = x := ⟨_, rfl⟩
    have D3 := D3.more (show _ ≤ 90000 by omega)
    rw [hP1] at D3
    have hqg : ¬ (q = g ∨ q = w.heap.size) := by omega
    have hE0 : Eres g w.heap.size 5 27 A0 n0 c0 zs0 w3.drew := ⟨hc3, hsl3, _, rfl, K3⟩
    have hrd : Rd w3.drew g (P1 + 100 * 0) := D3.rd
    obtain ⟨ii64, tii, tzi64, tsi64, _⟩ := info_parts infoI
    refine wp_region_typed (by kernel_rfl) (tsOf [(2, .pointer (some ⟨w.heap.size, 0, none⟩)), (4, .pointer (some ⟨g, 0, none⟩)), (5, .int .i64 to0), (6, .pointer (some ⟨q, 0, none⟩))] [(29, tLit (.agg #[.int .i64 f9, .int .i64 t9, .int .i64 k9, .int .i64 l9, .slice A9 n9 c9])), (30, tInt .i64 0 3), (31, tLit (.pointer (some ⟨g, 0, none⟩))), (32, tInt .i64 0 3), (33, tRow w3.heap.size 2 (tInt .i64 0 3)), (34, tLit (.pointer (some ⟨g, 0, none⟩))), (35, tInt .i64 0 3), (36, tInt .i64 0 1), (37, tAt w3.heap.size (tInt .i64 0 3)), (38, tInt .i64 0 3), (3, tInt .i64 0 3)]) (Xe 10 w.heap.size 27 #[.int .i64 f9, .int .i64 t9, .int .i64 k9, .int .i64 l9, .slice A9 n9 c9]) (Gd w3 g (P1) (fun k => k = g ∨ k = w.heap.size) (Eres g w.heap.size 5 27 A0 n0 c0 zs0)) 12 12 rfl [some 29, some 30, some 31, some 32, some 33, some 34, some 35, some 36, some 37, some 38, none, some 3] (by kernel_rfl) (by kernel_rfl) rfl (fun _ _ _ h hg => Gd.more _ _ _ h hg) ⟨hrd, (GrF.refl _ _).drew, rfl, hE0⟩ (ts_old (by intro x hx; simp only [List.mem_cons, List.not_mem_nil, or_false] at hx; rcases hx with rfl | rfl | rfl | rfl <;> rfl) (by kernel_rfl)) ?_ ?_
    · obtain ⟨TS, hTS⟩ : ∃ TS, TS = tsOf [(2, .pointer (some ⟨w.heap.size, 0, none⟩)), (4, .pointer (some ⟨g, 0, none⟩)), (5, .int .i64 to0), (6, .pointer (some ⟨q, 0, none⟩))] [(29, tLit (.agg #[.int .i64 f9, .int .i64 t9, .int .i64 k9, .int .i64 l9, .slice A9 n9 c9])), (30, tInt .i64 0 3), (31, tLit (.pointer (some ⟨g, 0, none⟩))), (32, tInt .i64 0 3), (33, tRow w3.heap.size 2 (tInt .i64 0 3)), (34, tLit (.pointer (some ⟨g, 0, none⟩))), (35, tInt .i64 0 3), (36, tInt .i64 0 1), (37, tAt w3.heap.size (tInt .i64 0 3)), (38, tInt .i64 0 3), (3, tInt .i64 0 3)] := ⟨_, rfl⟩
      rw [← hTS]
      have hst : ∀ s, Stab w3.heap.size (TS s) := fun s => by rw [hTS]; exact stab_ts (by exact ⟨stab_lit _, stab_int _ _ _, stab_lit _, stab_int _ _ _, stab_row (stab_int _ _ _), stab_lit _, stab_int _ _ _, stab_int _ _ _, stab_at (stab_int _ _ _), stab_int _ _ _, stab_int _ _ _, trivial⟩) s
      have T2 : TS 2 = tLit (.pointer (some ⟨w.heap.size, 0, none⟩)) := by rw [hTS]; rfl
      have T4 : TS 4 = tLit (.pointer (some ⟨g, 0, none⟩)) := by rw [hTS]; rfl
      have T5 : TS 5 = tLit (.int .i64 to0) := by rw [hTS]; rfl
      have T6 : TS 6 = tLit (.pointer (some ⟨q, 0, none⟩)) := by rw [hTS]; rfl
      have T29 : TS 29 = tLit (.agg #[.int .i64 f9, .int .i64 t9, .int .i64 k9, .int .i64 l9, .slice A9 n9 c9]) := by rw [hTS]; rfl
      have T30 : TS 30 = tInt .i64 0 3 := by rw [hTS]; rfl
      have T31 : TS 31 = tLit (.pointer (some ⟨g, 0, none⟩)) := by rw [hTS]; rfl
      have T32 : TS 32 = tInt .i64 0 3 := by rw [hTS]; rfl
      have T33 : TS 33 = tRow w3.heap.size 2 (tInt .i64 0 3) := by rw [hTS]; rfl
      have T34 : TS 34 = tLit (.pointer (some ⟨g, 0, none⟩)) := by rw [hTS]; rfl
      have T35 : TS 35 = tInt .i64 0 3 := by rw [hTS]; rfl
      have T36 : TS 36 = tInt .i64 0 1 := by rw [hTS]; rfl
      have T37 : TS 37 = tAt w3.heap.size (tInt .i64 0 3) := by rw [hTS]; rfl
      have T38 : TS 38 = tInt .i64 0 3 := by rw [hTS]; rfl
      have T3 : TS 3 = tInt .i64 0 3 := by rw [hTS]; rfl
      have C : Ctx Try.prog g (P1) w3.heap.size 12 (fun k => k = g ∨ k = w.heap.size) (Eres g w.heap.size 5 27 A0 n0 c0 zs0) TS (Xe 10 w.heap.size 27 #[.int .i64 f9, .int .i64 t9, .int .i64 k9, .int .i64 l9, .slice A9 n9 c9]) := ⟨hrd.lt, .inl rfl, by omega, hst, fun j w w' hg hx e => (hg.1.block _ (hx e).lt (by omega)).trans (hx e), fun w w' hg h => h.keep (by omega) w w' hg⟩
      have hXi : ∀ i, i ≠ 10 → ∀ wx, (Xe 10 w.heap.size 27 #[.int .i64 f9, .int .i64 t9, .int .i64 k9, .int .i64 l9, .slice A9 n9 c9]) i wx := fun i hi wx e => absurd e hi
      clear hst hTS
      exact ⟨t_loadold (i := 0) C (hXi 0 (by omega)) Try.underlying27 rfl (by kernel_rfl) Q3 hqg (ot_tmp T6) T29,
        t_move (i := 1) C (hXi 1 (by omega)) (fun o b w hm ho => ⟨to0, by omega, by omega, ot_tmp T5 o b w hm ho⟩) T30,
        t_move (i := 2) C (hXi 2 (by omega)) (ot_tmp T4) T31,
        t_pick (i := 3) C (hXi 3 (by omega)) (ot_tmp T31) (ot_const (lo := 4) (hi := 4) (by omega) (by omega)) (by omega) (by omega) (by omega) T32,
        t_row (i := 4) C (hXi 4 (by omega)) [.tmp 30, .tmp 32] Try.underlying58 tii tsi64 tzi64 rfl rfl (by omega) (by omega) int_one (stab_int _ _ _) ⟨(ot_tmp T30), (ot_tmp T32), trivial⟩ (Nat.le_refl _) T33,
        t_move (i := 5) C (hXi 5 (by omega)) (ot_tmp T4) T34,
        t_pick (i := 6) C (hXi 6 (by omega)) (ot_tmp T34) (ot_const (lo := 4) (hi := 4) (by omega) (by omega)) (by omega) (by omega) (by omega) T35,
        t_quoc (i := 7) C (hXi 7 (by omega)) (ot_tmp T35) (by omega) (by omega) (by omega) (by omega) (by omega) T36,
        t_index (i := 8) C (hXi 8 (by omega)) Try.underlying58 tii tsi64 (ot_tmp T33) (ot_tmp T36) (by omega) (by omega) T37,
        t_load (i := 9) C (hXi 9 (by omega)) Try.underlying3 rfl (ot_tmp T37) T38,
        t_storeres C rfl hz0 (by omega) K3.lt (.inr rfl) (ot_tmp T2) (ot_tmp T29) (by kernel_rfl) rfl (by simp [Value.oneCell']) (fun j w hj e => absurd e hj) (fun w h _ => h),
        t_assign (i := 11) C (hXi 11 (by omega)) (ot_tmp T38) T3,
        trivial⟩
    · intro vs w' hG hty _ hX2
      obtain ⟨to1, t0, t1, e3⟩ := (show tInt .i64 0 3 (vs 3) w' from (show tInt .i64 0 3 (vs 3) w' from hty 11 3 (by omega) (by omega) rfl).more (by omega) (by omega))
      have KE : Blk w' w.heap.size 27 #[.int .i64 f9, .int .i64 t9, .int .i64 k9, .int .i64 l9, .slice A9 n9 c9] := hX2 10 (by omega) (by omega) rfl
      have hgr := hG.gr
      have b5 : Below w.heap.size w w' := ⟨hgr.os.trans b3.os, hgr.tape.trans b3.tape, hgr.output.trans b3.output, Nat.le_trans b3.size hgr.size, fun k hk => (hgr.block k (Nat.lt_of_lt_of_le hk b3.size) (by omega)).trans (b3.block k hk)⟩
      have RE : Sl w' w.heap.size w'.heap.size 1 A9 n9 (ps'.map (Value.int .u8)) := ((Sl.of_own R3).keep fun b o h1 h2 => World.cell?_of_block (a := ⟨b, o, none⟩) (hgr.block b h2 (by omega))).more (by omega) hgr.size
      clear hty hX2
      refine wpList_nil ?_
      simp only [putL, e3]
      go_wp2
      obtain ⟨x0, x1, x2, x3, x4⟩ := KE.five
      refine bodyPost_ret (v := .tuple #[.agg #[.int .i64 f9, .int .i64 t9, .int .i64 k9, .int .i64 l9, .slice A9 n9 c9], .int .i64 to1]) ?_ rfl ⟨f9, t9, k9, l9, A9, n9, c9, ps', to1, rfl, by omega, hnc9, hcm9, hps', RE, t0, t1, b5⟩
      simp [results, Try.results37, go_sem, x0, x1, x2, x3, x4]
  · go_wp2_with fail
    refine (odd_any _ _ _ _ D7.rd (by omega) (by omega) (by omega)).mono ?_
    rintro e w8 ⟨b, rfl, hr8, hg8⟩
    have D8 := D7.picked hr8 hg8
    have K8 := K7.grown hg8 (by intro he; injection he with he; omega)
    have Q8 := Q7.picked hg8 (by omega)
    have R8 := own_picked R7 hg8 (by omega)
    have b8 := D8.out b01 (by omega)
    clear D7 K7 Q7 R7 b7 hr8 hg8
    rcases b
    · go_wp2_with fail
      have D3 := D8
      have K3 := K8
      have Q3 := Q8
      have R3 := R8
      have b3 := b8
      have hsl3 := hsl.grown D3.gr (by have := D3.lt; omega) (fun x hx => by cases hx; left; omega)
      have hc3 := D3.c0.trans hcell
      clear D8 K8 Q8 R8
      have hqq := Q3.lt
      generalize w8 = w3 at *
      obtain ⟨P1, hP1⟩ : ∃ x, 90000 = x := ⟨_, rfl⟩
      have D3 := D3.more (show _ ≤ 90000 by omega)
      rw [hP1] at D3
      have hqg : ¬ (q = g ∨ q = w.heap.size) := by omega
      have hE0 : Eres g w.heap.size 5 27 A0 n0 c0 zs0 w3.drew := ⟨hc3, hsl3, _, rfl, K3⟩
      have hrd : Rd w3.drew g (P1 + 100 * 0) := D3.rd
      obtain ⟨ii64, tii, tzi64, tsi64, _⟩ := info_parts infoI
      refine wp_region_typed (by kernel_rfl) (tsOf [(2, .pointer (some ⟨w.heap.size, 0, none⟩)), (4, .pointer (some ⟨g, 0, none⟩)), (5, .int .i64 to0), (6, .pointer (some ⟨q, 0, none⟩))] [(29, tLit (.agg #[.int .i64 r1, .int .i64 r2, .int .i64 r3, .int .i64 r4, .slice A6 m6 c6])), (30, tInt .i64 0 3), (31, tLit (.pointer (some ⟨g, 0, none⟩))), (32, tInt .i64 0 3), (33, tRow w3.heap.size 2 (tInt .i64 0 3)), (34, tLit (.pointer (some ⟨g, 0, none⟩))), (35, tInt .i64 0 3), (36, tInt .i64 0 1), (37, tAt w3.heap.size (tInt .i64 0 3)), (38, tInt .i64 0 3), (3, tInt .i64 0 3)]) (Xe 10 w.heap.size 27 #[.int .i64 r1, .int .i64 r2, .int .i64 r3, .int .i64 r4, .slice A6 m6 c6]) (Gd w3 g (P1) (fun k => k = g ∨ k = w.heap.size) (Eres g w.heap.size 5 27 A0 n0 c0 zs0)) 12 12 rfl [some 29, some 30, some 31, some 32, some 33, some 34, some 35, some 36, some 37, some 38, none, some 3] (by kernel_rfl) (by kernel_rfl) rfl (fun _ _ _ h hg => Gd.more _ _ _ h hg) ⟨hrd, (GrF.refl _ _).drew, rfl, hE0⟩ (ts_old (by intro x hx; simp only [List.mem_cons, List.not_mem_nil, or_false] at hx; rcases hx with rfl | rfl | rfl | rfl <;> rfl) (by kernel_rfl)) ?_ ?_
      · obtain ⟨TS, hTS⟩ : ∃ TS, TS = tsOf [(2, .pointer (some ⟨w.heap.size, 0, none⟩)), (4, .pointer (some ⟨g, 0, none⟩)), (5, .int .i64 to0), (6, .pointer (some ⟨q, 0, none⟩))] [(29, tLit (.agg #[.int .i64 r1, .int .i64 r2, .int .i64 r3, .int .i64 r4, .slice A6 m6 c6])), (30, tInt .i64 0 3), (31, tLit (.pointer (some ⟨g, 0, none⟩))), (32, tInt .i64 0 3), (33, tRow w3.heap.size 2 (tInt .i64 0 3)), (34, tLit (.pointer (some ⟨g, 0, none⟩))), (35, tInt .i64 0 3), (36, tInt .i64 0 1), (37, tAt w3.heap.size (tInt .i64 0 3)), (38, tInt .i64 0 3), (3, tInt .i64 0 3)] := ⟨_, rfl⟩
        rw [← hTS]
        have hst : ∀ s, Stab w3.heap.size (TS s) := fun s => by rw [hTS]; exact stab_ts (by exact ⟨stab_lit _, stab_int _ _ _, stab_lit _, stab_int _ _ _, stab_row (stab_int _ _ _), stab_lit _, stab_int _ _ _, stab_int _ _ _, stab_at (stab_int _ _ _), stab_int _ _ _, stab_int _ _ _, trivial⟩) s
        have T2 : TS 2 = tLit (.pointer (some ⟨w.heap.size, 0, none⟩)) := by rw [hTS]; rfl
        have T4 : TS 4 = tLit (.pointer (some ⟨g, 0, none⟩)) := by rw [hTS]; rfl
        have T5 : TS 5 = tLit (.int .i64 to0) := by rw [hTS]; rfl
        have T6 : TS 6 = tLit (.pointer (some ⟨q, 0, none⟩)) := by rw [hTS]; rfl
        have T29 : TS 29 = tLit (.agg #[.int .i64 r1, .int .i64 r2, .int .i64 r3, .int .i64 r4, .slice A6 m6 c6]) := by rw [hTS]; rfl
        have T30 : TS 30 = tInt .i64 0 3 := by rw [hTS]; rfl
        have T31 : TS 31 = tLit (.pointer (some ⟨g, 0, none⟩)) := by rw [hTS]; rfl
        have T32 : TS 32 = tInt .i64 0 3 := by rw [hTS]; rfl
        have T33 : TS 33 = tRow w3.heap.size 2 (tInt .i64 0 3) := by rw [hTS]; rfl
        have T34 : TS 34 = tLit (.pointer (some ⟨g, 0, none⟩)) := by rw [hTS]; rfl
        have T35 : TS 35 = tInt .i64 0 3 := by rw [hTS]; rfl
        have T36 : TS 36 = tInt .i64 0 1 := by rw [hTS]; rfl
        have T37 : TS 37 = tAt w3.heap.size (tInt .i64 0 3) := by rw [hTS]; rfl
        have T38 : TS 38 = tInt .i64 0 3 := by rw [hTS]; rfl
        have T3 : TS 3 = tInt .i64 0 3 := by rw [hTS]; rfl
        have C : Ctx Try.prog g (P1) w3.heap.size 12 (fun k => k = g ∨ k = w.heap.size) (Eres g w.heap.size 5 27 A0 n0 c0 zs0) TS (Xe 10 w.heap.size 27 #[.int .i64 r1, .int .i64 r2, .int .i64 r3, .int .i64 r4, .slice A6 m6 c6]) := ⟨hrd.lt, .inl rfl, by omega, hst, fun j w w' hg hx e => (hg.1.block _ (hx e).lt (by omega)).trans (hx e), fun w w' hg h => h.keep (by omega) w w' hg⟩
        have hXi : ∀ i, i ≠ 10 → ∀ wx, (Xe 10 w.heap.size 27 #[.int .i64 r1, .int .i64 r2, .int .i64 r3, .int .i64 r4, .slice A6 m6 c6]) i wx := fun i hi wx e => absurd e hi
        clear hst hTS
        exact ⟨t_loadold (i := 0) C (hXi 0 (by omega)) Try.underlying27 rfl (by kernel_rfl) Q3 hqg (ot_tmp T6) T29,
          t_move (i := 1) C (hXi 1 (by omega)) (fun o b w hm ho => ⟨to0, by omega, by omega, ot_tmp T5 o b w hm ho⟩) T30,
          t_move (i := 2) C (hXi 2 (by omega)) (ot_tmp T4) T31,
          t_pick (i := 3) C (hXi 3 (by omega)) (ot_tmp T31) (ot_const (lo := 4) (hi := 4) (by omega) (by omega)) (by omega) (by omega) (by omega) T32,
          t_row (i := 4) C (hXi 4 (by omega)) [.tmp 30, .tmp 32] Try.underlying58 tii tsi64 tzi64 rfl rfl (by omega) (by omega) int_one (stab_int _ _ _) ⟨(ot_tmp T30), (ot_tmp T32), trivial⟩ (Nat.le_refl _) T33,
          t_move (i := 5) C (hXi 5 (by omega)) (ot_tmp T4) T34,
          t_pick (i := 6) C (hXi 6 (by omega)) (ot_tmp T34) (ot_const (lo := 4) (hi := 4) (by omega) (by omega)) (by omega) (by omega) (by omega) T35,
          t_quoc (i := 7) C (hXi 7 (by omega)) (ot_tmp T35) (by omega) (by omega) (by omega) (by omega) (by omega) T36,
          t_index (i := 8) C (hXi 8 (by omega)) Try.underlying58 tii tsi64 (ot_tmp T33) (ot_tmp T36) (by omega) (by omega) T37,
          t_load (i := 9) C (hXi 9 (by omega)) Try.underlying3 rfl (ot_tmp T37) T38,
          t_storeres C rfl hz0 (by omega) K3.lt (.inr rfl) (ot_tmp T2) (ot_tmp T29) (by kernel_rfl) rfl (by simp [Value.oneCell']) (fun j w hj e => absurd e hj) (fun w h _ => h),
          t_assign (i := 11) C (hXi 11 (by omega)) (ot_tmp T38) T3,
          trivial⟩
      · intro vs w' hG hty _ hX2
        obtain ⟨to1, t0, t1, e3⟩ := (show tInt .i64 0 3 (vs 3) w' from (show tInt .i64 0 3 (vs 3) w' from hty 11 3 (by omega) (by omega) rfl).more (by omega) (by omega))
        have KE : Blk w' w.heap.size 27 #[.int .i64 r1, .int .i64 r2, .int .i64 r3, .int .i64 r4, .slice A6 m6 c6] := hX2 10 (by omega) (by omega) rfl
        have hgr := hG.gr
        have b5 : Below w.heap.size w w' := ⟨hgr.os.trans b3.os, hgr.tape.trans b3.tape, hgr.output.trans b3.output, Nat.le_trans b3.size hgr.size, fun k hk => (hgr.block k (Nat.lt_of_lt_of_le hk b3.size) (by omega)).trans (b3.block k hk)⟩
        have RE : Sl w' w.heap.size w'.heap.size 1 A6 m6 (ps'.map (Value.int .u8)) := ((Sl.of_own R3).keep fun b o h1 h2 => World.cell?_of_block (a := ⟨b, o, none⟩) (hgr.block b h2 (by omega))).more (by omega) hgr.size
        clear hty hX2
        refine wpList_nil ?_
        simp only [putL, e3]
        go_wp2
        obtain ⟨x0, x1, x2, x3, x4⟩ := KE.five
        refine bodyPost_ret (v := .tuple #[.agg #[.int .i64 r1, .int .i64 r2, .int .i64 r3, .int .i64 r4, .slice A6 m6 c6], .int .i64 to1]) ?_ rfl ⟨r1, r2, r3, r4, A6, m6, c6, ps', to1, rfl, by omega, hc1, hc2, hps', RE, t0, t1, b5⟩
        simp [results, Try.results37, go_sem, x0, x1, x2, x3, x4]
    · skip
      obtain ⟨d0, d1, d2, d3, d4, df⟩ := Q8.five_
      go_wp2_with fail
      clear d0 d1 d2 d3 d4 df
      clear R8 HM6 hps' hrl hc1 hc2
      refine (packet_any _ _ _ _ D8.rd (by omega) (by omega) (by omega)).mono ?_
      rintro e w9 ⟨f9, t9, k9, l9, A9, n9, c9, ps', rfl, h81, hnc9, hcm9, hps', R9, D9'⟩
      have hgw : g < w8.heap.size := D8.rd.lt
      have hqw : q < w8.heap.size := Q8.lt
      have D9 := D8.trans D9'
      have Q9 := Q8.grown D9'.gr (by intro he; injection he with he; omega)
      have K9 := K1.grown D9.gr (by intro he; injection he with he; omega)
      have QA := Q9.setFive (.int .i64 f9) (.int .i64 t9) (.int .i64 k9) (.int .i64 l9) (.slice A9 n9 c9)
      have DA := D9.setFive (show w1.heap.size ≤ q by omega) (.int .i64 f9) (.int .i64 t9) (.int .i64 k9) (.int .i64 l9) (.slice A9 n9 c9)
      have KA := K9.farFive (show w.heap.size ≠ q by omega) (.int .i64 f9) (.int .i64 t9) (.int .i64 k9) (.int .i64 l9) (.slice A9 n9 c9)
      have RA := own_set5 R9 (own_ne R9 Q9 (by decide)) (.int .i64 f9) (.int .i64 t9) (.int .i64 k9) (.int .i64 l9) (.slice A9 n9 c9)
      obtain ⟨d0, d1, d2, d3, d4, df⟩ := Q9.five_
      go_wp2_with fail
      clear d0 d1 d2 d3 d4 df
      obtain ⟨wA, hwA⟩ : ∃ wA, wA = set5 w9 q (.int .i64 f9) (.int .i64 t9) (.int .i64 k9) (.int .i64 l9) (.slice A9 n9 c9) := ⟨_, rfl⟩
      unfold set5 at hwA QA DA KA RA
      rw [← hwA] at QA DA KA RA ⊢
      clear hwA D9 D9' Q9 K9 R9 D8 K8 Q8
      have bA := DA.out b01 (by omega)
      clear b8
      have D3 := DA
      have K3 := KA
      have Q3 := QA
      have R3 := RA
      have b3 := bA
      have hsl3 := hsl.grown D3.gr (by have := D3.lt; omega) (fun x hx => by cases hx; left; omega)
      have hc3 := D3.c0.trans hcell
      clear DA KA QA RA
      have hqq := Q3.lt
      generalize wA = w3 at *
      obtain ⟨P1, hP1⟩ : ∃ x, 90000 = x := ⟨_, rfl⟩
      have D3 := D3.more (show _ ≤ 90000 by omega)
      rw [hP1] at D3
      have hqg : ¬ (q = g ∨ q = w.heap.size) := by omega
      have hE0 : Eres g w.heap.size 5 27 A0 n0 c0 zs0 w3.drew := ⟨hc3, hsl3, _, rfl, K3⟩
      have hrd : Rd w3.drew g (P1 + 100 * 0) := D3.rd
      obtain ⟨ii64, tii, tzi64, tsi64, _⟩ := info_parts infoI
      refine wp_region_typed (by kernel_rfl) (tsOf [(2, .pointer (some ⟨w.heap.size, 0, none⟩)), (4, .pointer (some ⟨g, 0, none⟩)), (5, .int .i64 to0), (6, .pointer (some ⟨q, 0, none⟩))] [(29, tLit (.agg #[.int .i64 f9, .int .i64 t9, .int .i64 k9, .int .i64 l9, .slice A9 n9 c9])), (30, tInt .i64 0 3), (31, tLit (.pointer (some ⟨g, 0, none⟩))), (32, tInt .i64 0 3), (33, tRow w3.heap.size 2 (tInt .i64 0 3)), (34, tLit (.pointer (some ⟨g, 0, none⟩))), (35, tInt .i64 0 3), (36, tInt .i64 0 1), (37, tAt w3.heap.size (tInt .i64 0 3)), (38, tInt .i64 0 3), (3, tInt .i64 0 3)]) (Xe 10 w.heap.size 27 #[.int .i64 f9, .int .i64 t9, .int .i64 k9, .int .i64 l9, .slice A9 n9 c9]) (Gd w3 g (P1) (fun k => k = g ∨ k = w.heap.size) (Eres g w.heap.size 5 27 A0 n0 c0 zs0)) 12 12 rfl [some 29, some 30, some 31, some 32, some 33, some 34, some 35, some 36, some 37, some 38, none, some 3] (by kernel_rfl) (by kernel_rfl) rfl (fun _ _ _ h hg => Gd.more _ _ _ h hg) ⟨hrd, (GrF.refl _ _).drew, rfl, hE0⟩ (ts_old (by intro x hx; simp only [List.mem_cons, List.not_mem_nil, or_false] at hx; rcases hx with rfl | rfl | rfl | rfl <;> rfl) (by kernel_rfl)) ?_ ?_
      · obtain ⟨TS, hTS⟩ : ∃ TS, TS = tsOf [(2, .pointer (some ⟨w.heap.size, 0, none⟩)), (4, .pointer (some ⟨g, 0, none⟩)), (5, .int .i64 to0), (6, .pointer (some ⟨q, 0, none⟩))] [(29, tLit (.agg #[.int .i64 f9, .int .i64 t9, .int .i64 k9, .int .i64 l9, .slice A9 n9 c9])), (30, tInt .i64 0 3), (31, tLit (.pointer (some ⟨g, 0, none⟩))), (32, tInt .i64 0 3), (33, tRow w3.heap.size 2 (tInt .i64 0 3)), (34, tLit (.pointer (some ⟨g, 0, none⟩))), (35, tInt .i64 0 3), (36, tInt .i64 0 1), (37, tAt w3.heap.size (tInt .i64 0 3)), (38, tInt .i64 0 3), (3, tInt .i64 0 3)] := ⟨_, rfl⟩
        rw [← hTS]
        have hst : ∀ s, Stab w3.heap.size (TS s) := fun s => by rw [hTS]; exact stab_ts (by exact ⟨stab_lit _, stab_int _ _ _, stab_lit _, stab_int _ _ _, stab_row (stab_int _ _ _), stab_lit _, stab_int _ _ _, stab_int _ _ _, stab_at (stab_int _ _ _), stab_int _ _ _, stab_int _ _ _, trivial⟩) s
        have T2 : TS 2 = tLit (.pointer (some ⟨w.heap.size, 0, none⟩)) := by rw [hTS]; rfl
        have T4 : TS 4 = tLit (.pointer (some ⟨g, 0, none⟩)) := by rw [hTS]; rfl
        have T5 : TS 5 = tLit (.int .i64 to0) := by rw [hTS]; rfl
        have T6 : TS 6 = tLit (.pointer (some ⟨q, 0, none⟩)) := by rw [hTS]; rfl
        have T29 : TS 29 = tLit (.agg #[.int .i64 f9, .int .i64 t9, .int .i64 k9, .int .i64 l9, .slice A9 n9 c9]) := by rw [hTS]; rfl
        have T30 : TS 30 = tInt .i64 0 3 := by rw [hTS]; rfl
        have T31 : TS 31 = tLit (.pointer (some ⟨g, 0, none⟩)) := by rw [hTS]; rfl
        have T32 : TS 32 = tInt .i64 0 3 := by rw [hTS]; rfl
        have T33 : TS 33 = tRow w3.heap.size 2 (tInt .i64 0 3) := by rw [hTS]; rfl
        have T34 : TS 34 = tLit (.pointer (some ⟨g, 0, none⟩)) := by rw [hTS]; rfl
        have T35 : TS 35 = tInt .i64 0 3 := by rw [hTS]; rfl
        have T36 : TS 36 = tInt .i64 0 1 := by rw [hTS]; rfl
        have T37 : TS 37 = tAt w3.heap.size (tInt .i64 0 3) := by rw [hTS]; rfl
        have T38 : TS 38 = tInt .i64 0 3 := by rw [hTS]; rfl
        have T3 : TS 3 = tInt .i64 0 3 := by rw [hTS]; rfl
        have C : Ctx Try.prog g (P1) w3.heap.size 12 (fun k => k = g ∨ k = w.heap.size) (Eres g w.heap.size 5 27 A0 n0 c0 zs0) TS (Xe 10 w.heap.size 27 #[.int .i64 f9, .int .i64 t9, .int .i64 k9, .int .i64 l9, .slice A9 n9 c9]) := ⟨hrd.lt, .inl rfl, by omega, hst, fun j w w' hg hx e => (hg.1.block _ (hx e).lt (by omega)).trans (hx e), fun w w' hg h => h.keep (by omega) w w' hg⟩
        have hXi : ∀ i, i ≠ 10 → ∀ wx, (Xe 10 w.heap.size 27 #[.int .i64 f9, .int .i64 t9, .int .i64 k9, .int .i64 l9, .slice A9 n9 c9]) i wx := fun i hi wx e => absurd e hi
        clear hst hTS
        exact ⟨t_loadold (i := 0) C (hXi 0 (by omega)) Try.underlying27 rfl (by kernel_rfl) Q3 hqg (ot_tmp T6) T29,
          t_move (i := 1) C (hXi 1 (by omega)) (fun o b w hm ho => ⟨to0, by omega, by omega, ot_tmp T5 o b w hm ho⟩) T30,
          t_move (i := 2) C (hXi 2 (by omega)) (ot_tmp T4) T31,
          t_pick (i := 3) C (hXi 3 (by omega)) (ot_tmp T31) (ot_const (lo := 4) (hi := 4) (by omega) (by omega)) (by omega) (by omega) (by omega) T32,
          t_row (i := 4) C (hXi 4 (by omega)) [.tmp 30, .tmp 32] Try.underlying58 tii tsi64 tzi64 rfl rfl (by omega) (by omega) int_one (stab_int _ _ _) ⟨(ot_tmp T30), (ot_tmp T32), trivial⟩ (Nat.le_refl _) T33,
          t_move (i := 5) C (hXi 5 (by omega)) (ot_tmp T4) T34,
          t_pick (i := 6) C (hXi 6 (by omega)) (ot_tmp T34) (ot_const (lo := 4) (hi := 4) (by omega) (by omega)) (by omega) (by omega) (by omega) T35,
          t_quoc (i := 7) C (hXi 7 (by omega)) (ot_tmp T35) (by omega) (by omega) (by omega) (by omega) (by omega) T36,
          t_index (i := 8) C (hXi 8 (by omega)) Try.underlying58 tii tsi64 (ot_tmp T33) (ot_tmp T36) (by omega) (by omega) T37,
          t_load (i := 9) C (hXi 9 (by omega)) Try.underlying3 rfl (ot_tmp T37) T38,
          t_storeres C rfl hz0 (by omega) K3.lt (.inr rfl) (ot_tmp T2) (ot_tmp T29) (by kernel_rfl) rfl (by simp [Value.oneCell']) (fun j w hj e => absurd e hj) (fun w h _ => h),
          t_assign (i := 11) C (hXi 11 (by omega)) (ot_tmp T38) T3,
          trivial⟩
      · intro vs w' hG hty _ hX2
        obtain ⟨to1, t0, t1, e3⟩ := (show tInt .i64 0 3 (vs 3) w' from (show tInt .i64 0 3 (vs 3) w' from hty 11 3 (by omega) (by omega) rfl).more (by omega) (by omega))
        have KE : Blk w' w.heap.size 27 #[.int .i64 f9, .int .i64 t9, .int .i64 k9, .int .i64 l9, .slice A9 n9 c9] := hX2 10 (by omega) (by omega) rfl
        have hgr := hG.gr
        have b5 : Below w.heap.size w w' := ⟨hgr.os.trans b3.os, hgr.tape.trans b3.tape, hgr.output.trans b3.output, Nat.le_trans b3.size hgr.size, fun k hk => (hgr.block k (Nat.lt_of_lt_of_le hk b3.size) (by omega)).trans (b3.block k hk)⟩
        have RE : Sl w' w.heap.size w'.heap.size 1 A9 n9 (ps'.map (Value.int .u8)) := ((Sl.of_own R3).keep fun b o h1 h2 => World.cell?_of_block (a := ⟨b, o, none⟩) (hgr.block b h2 (by omega))).more (by omega) hgr.size
        clear hty hX2
        refine wpList_nil ?_
        simp only [putL, e3]
        go_wp2
        obtain ⟨x0, x1, x2, x3, x4⟩ := KE.five
        refine bodyPost_ret (v := .tuple #[.agg #[.int .i64 f9, .int .i64 t9, .int .i64 k9, .int .i64 l9, .slice A9 n9 c9], .int .i64 to1]) ?_ rfl ⟨f9, t9, k9, l9, A9, n9, c9, ps', to1, rfl, by omega, hnc9, hcm9, hps', RE, t0, t1, b5⟩
        simp [results, Try.results37, go_sem, x0, x1, x2, x3, x4]
end Go.Proofs.Ytleammkpfknngaa
