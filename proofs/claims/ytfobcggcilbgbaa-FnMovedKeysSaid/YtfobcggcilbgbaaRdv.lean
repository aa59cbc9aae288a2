/-
  RendezvousHost of the program.
-/
import Derived.Test.YtfobcggcilbgbaaUpS
namespace Go.Proofs.Ytfobcggcilbgbaa
open Go.RowKit
set_option linter.unusedVariables false

/-- All hosts of a valid pool are well. -/
theorem poolFrom_mem : ∀ (hs : List H3) (p : Int), poolFrom p hs = true → ∀ h ∈ hs, (0 ≤ h.1 ∧ h.1 ≤ 30) ∧ (1 ≤ h.2.1 ∧ h.2.1 ≤ 5) ∧ (0 ≤ h.2.2 ∧ h.2.2 ≤ 2) := by
  intro hs
  induction hs with
  | nil => intro p _ h hm; cases hm
  | cons x r ih =>
    intro p h y hy
    unfold poolFrom at h
    simp only [Bool.and_eq_true] at h
    rcases List.mem_cons.1 hy with rfl | hy
    · have := h.1
      unfold hostOk at this
      simp only [Bool.and_eq_true, inB_iff, decide_eq_true_eq] at this
      exact ⟨this.1.1.1, this.1.2, this.2⟩
    · exact ih _ h.2 y hy
theorem pool_mem {hs : List H3} (h : poolV hs = true) : ∀ x ∈ hs, (0 ≤ x.1 ∧ x.1 ≤ 30) ∧ (1 ≤ x.2.1 ∧ x.2.1 ≤ 5) ∧ (0 ≤ x.2.2 ∧ x.2.2 ≤ 2) := by
  unfold poolV at h
  simp only [Bool.and_eq_true] at h
  exact poolFrom_mem hs _ h.1
theorem pool_len {hs : List H3} (h : poolV hs = true) : hs.length ≤ 6 := by
  unfold poolV at h
  simp only [Bool.and_eq_true, decide_eq_true_eq] at h
  exact h.2
theorem up_mem {hs : List H3} {x : H3} (h : x ∈ upL hs) : x ∈ hs ∧ x.2.2 = 1 := by
  unfold upL at h
  rw [List.mem_filter] at h
  exact ⟨h.1, by simpa [upB] using h.2⟩
theorem hAt_mem {hs : List H3} {k : Nat} (h : k < hs.length) : hAt hs k ∈ hs := by rw [hAt_eq h]; exact List.getElem_mem h

def rdvS (us : List H3) (key : Int) (k t : Nat) : Int × Int := ((us.take k).flatMap (tickH key) ++ (tickH key (hAt us k)).take t).foldl best1 (-1, -1)
theorem rdvS_zero (us : List H3) (key : Int) : rdvS us key 0 0 = (-1, -1) := rfl
theorem tickH_len (key : Int) (h : H3) : (tickH key h).length = h.2.1.toNat := by unfold tickH; simp
theorem tickH_at (key : Int) (h : H3) (t : Nat) (ht : t < h.2.1.toNat) : (tickH key h)[t]? = some (h.1, mixL [key, h.1, (t : Int)]) := by unfold tickH; simp [List.getElem?_range ht]
theorem rdvS_step (us : List H3) (key : Int) (k t : Nat) (ht : t < (hAt us k).2.1.toNat) : rdvS us key k (t + 1) = best1 (rdvS us key k t) ((hAt us k).1, mixL [key, (hAt us k).1, (t : Int)]) := by
  unfold rdvS
  rw [List.take_add_one, tickH_at key _ t ht]
  simp [List.foldl_append]
theorem rdvS_next (us : List H3) (key : Int) (k : Nat) (hk : k < us.length) : rdvS us key k (hAt us k).2.1.toNat = rdvS us key (k + 1) 0 := by
  unfold rdvS
  rw [List.take_of_length_le (l := tickH key (hAt us k)) (by rw [tickH_len]; exact Nat.le_refl _), List.take_succ_eq_append_getElem hk, List.flatMap_append, ← hAt_eq hk]
  simp
theorem rdvS_done (us : List H3) (key : Int) : rdvS us key us.length 0 = bestT (us.flatMap (tickH key)) := by
  unfold rdvS bestT
  simp
theorem foldl_bd (l : List (Int × Int)) (h : ∀ x ∈ l, -1 ≤ x.2 ∧ x.2 ≤ 1000002) : ∀ s : Int × Int, -1 ≤ s.2 ∧ s.2 ≤ 1000002 → -1 ≤ (l.foldl best1 s).2 ∧ (l.foldl best1 s).2 ≤ 1000002 := by
  induction l with
  | nil => intro s hs; exact hs
  | cons x r ih =>
    intro s hs
    refine ih (fun y hy => h y (by simp [hy])) _ ?_
    unfold best1
    split
    · exact h x (by simp)
    · exact hs
theorem tickH_bd (key : Int) (h : H3) : ∀ x ∈ tickH key h, -1 ≤ x.2 ∧ x.2 ≤ 1000002 := by
  intro x hx
  unfold tickH at hx
  simp at hx
  obtain ⟨t, _, rfl⟩ := hx
  exact mixL_bd _
theorem rdvS_bd (us : List H3) (key : Int) (k t : Nat) : -1 ≤ (rdvS us key k t).2 ∧ (rdvS us key k t).2 ≤ 1000002 := by
  unfold rdvS
  refine foldl_bd _ (fun x hx => ?_) _ (by decide)
  rcases List.mem_append.1 hx with hx | hx
  · rw [List.mem_flatMap] at hx
    obtain ⟨a, _, hx⟩ := hx
    exact tickH_bd key a x hx
  · exact tickH_bd key _ x (List.mem_of_mem_take hx)
/-- What RendezvousHost returns. -/
def rdv (hs : List H3) (key : Int) : Int := if poolV hs = true ∧ keyV key = true then (bestT (ticks hs key)).1 else -1
theorem sl_new3 {W : World} (T : TypeId) (a b c : Int) {g : Nat} (hg : g = W.heap.size) : Sl (W.alloc (.cells #[.int .i64 a, .int .i64 b, .int .i64 c] T)) W.heap.size (W.heap.size + 1) 1 (some ⟨g, 0, none⟩) 3 ([a, b, c].map (Value.int .i64)) := Sl.newAt _ _ 1 3 rfl hg
theorem sl_new2 {W : World} (T : TypeId) (a b : Int) {g : Nat} (hg : g = W.heap.size) : Sl (W.alloc (.cells #[.int .i64 a, .int .i64 b] T)) W.heap.size (W.heap.size + 1) 1 (some ⟨g, 0, none⟩) 2 ([a, b].map (Value.int .i64)) := Sl.newAt _ _ 1 2 rfl hg

set_option maxRecDepth 100000 in
set_option maxHeartbeats 1600000 in
theorem iRdv_any (A : Option Addr) (n c : Nat) (key : Int) (hs : List H3) (w : World) {lo hi : Nat} (hS : Sl w lo hi 3 A n (hostsV hs)) (hhi : hi ≤ w.heap.size) (hn : n ≤ 1048576) :
    Calls Try.prog 46 #[.slice A n c, .int .i64 key] w fun e w' => e = .returned (.int .i64 (rdv hs key)) ∧ Below w.heap.size w w' := by
  have HL := Lib.hid hS.hlen
  by_cases hv : poolV hs = true
  · by_cases hk : keyV key = true
    · have hbk := keyV_iff.1 hk
      obtain ⟨us, hus⟩ : ∃ us, upL hs = us := ⟨_, rfl⟩
      obtain ⟨m, hml⟩ : ∃ m, us.length = m := ⟨_, rfl⟩
      have HR : RowKit.Hid (rdv hs key = (rdvS us key m 0).1) := Lib.hid (by unfold rdv; rw [if_pos ⟨hv, hk⟩, ← hml, rdvS_done, ← hus]; rfl)
      have hm : m ≤ 6 := by have := upL_len hs; rw [hus, hml] at this; have := pool_len hv; omega
      have hmem : ∀ k, k < m → 1 ≤ (hAt us k).2.1 ∧ (hAt us k).2.1 ≤ 5 := fun k hk => (pool_mem hv _ (up_mem (hs := hs) (by rw [hus]; exact hAt_mem (by omega))).1).2.1
      have HS := Lib.hid hus
      have HM := Lib.hid hml
      have HW := Lib.hid hmem
      have hup : ∀ w1, Below w.heap.size w w1 → Calls Try.prog 45 #[.slice A n c] w1 (RetOwn w1 39 3 m (hostsV us)) := fun w1 hb1 => by
        have := up_any A n c hs w1 (hS.below hb1 hhi) (Nat.le_trans hhi hb1.size) hn
        rwa [hus, hml] at this
      clear hus hml hmem
      rw [HR.out]
      go_enter Try.func46, Try.ntmps46
      go_wp2_with (first | (go_at_call 19; refine (iPoolValid_any _ _ _ hs _ hS hhi hn).mono ?_; rw [hv]; rintro e w1 ⟨rfl, hb1⟩) | (go_at_call 44; refine (isKey_any _ _).mono ?_; rw [hk]; rintro e w1 ⟨rfl, rfl⟩) | (go_at_call 45; refine (hup _ hb1).mono ?_; intro e w2 hr; obtain ⟨A2, c2, rfl, own2, hb2⟩ := hr.form; have hS2 := Sl.of_own own2; have hbb := hb1.trans (hb2.mono hb1.size); clear own2 hr))
      clear hup
      go_loopw [5, 6, 22] (fun x y i wr => ∃ (k : Nat), k ≤ m ∧ i = .int .i64 k ∧ x = .int .i64 (rdvS us key k 0).1 ∧ y = .int .i64 (rdvS us key k 0).2 ∧ Below w2.heap.size w2 wr) (fun _ _ i _ => m - (intOf i).toNat)
      case atStart => exact ⟨0, Nat.zero_le _, rfl, rfl, rfl, Below.refl _ _⟩
      case round =>
        obtain ⟨k, hk', rfl, rfl, rfl, hb⟩ := hrel
        by_cases hlt : k < m
        · obtain ⟨b, off, rfl, _, _, c0, c1, c2⟩ := (hS2.below hb (Nat.le_refl _)).host hlt
          have HN := Lib.hid (rdvS_next us key k (by rw [HM.out]; exact hlt))
          have HST := Lib.hid (rdvS_step us key k)
          have hbw := HW.out k hlt
          have hz := hb.size
          obtain ⟨⟨h0, h1, h2⟩, hh⟩ : ∃ p, hAt us k = p := ⟨_, rfl⟩
          rw [hh] at c0 c1 c2 HN HST hbw
          simp only at hbw
          clear hh
          obtain ⟨q, rfl⟩ : ∃ q : Nat, h1 = (q : Int) := ⟨h1.toNat, by omega⟩
          have hq5 : q ≤ 5 := by omega
          have hq1 : 1 ≤ q := by omega
          simp only [Int.toNat_natCast] at HN HST
          go_upto_region 7 with fail
          generalize hgw : wr.alloc (.cells #[.int .i64 h0, .int .i64 (q : Int), .int .i64 h2] 39) = w4
          have hblk : Blk w4 wr.heap.size 39 #[.int .i64 h0, .int .i64 (q : Int), .int .i64 h2] := by rw [← hgw]; exact Blk.new _ _ _
          have hb4 : Below w2.heap.size w2 w4 := by rw [← hgw]; exact hb.alloc hz _
          clear hgw c0 c1 c2
          have d1 : w4.cell? ⟨wr.heap.size, 0 + 1, none⟩ = some (.int .i64 (q : Int)) := hblk.cell 1
          go_wp2
          clear d1
          obtain ⟨g, hg⟩ : ∃ g : Nat, g = wr.heap.size := ⟨_, rfl⟩
          rw [← hg] at hblk ⊢
          clear hg
          obtain ⟨wo, rfl⟩ : ∃ wo : World, wo = wr := ⟨_, rfl⟩
          go_loopw [5, 6, 28] (fun x y i wi => ∃ (s : Nat), s ≤ q ∧ i = .int .i64 s ∧ x = .int .i64 (rdvS us key k s).1 ∧ y = .int .i64 (rdvS us key k s).2 ∧ Blk wi g 39 #[.int .i64 h0, .int .i64 (q : Int), .int .i64 h2] ∧ Below w2.heap.size w2 wi) (fun _ _ i _ => q - (intOf i).toNat)
          case atStart => exact ⟨0, Nat.zero_le _, rfl, rfl, rfl, hblk, hb4⟩
          case round =>
            clear hblk hb4
            obtain ⟨s, hs', rfl, rfl, rfl, hblk, hbi⟩ := hrel
            by_cases hlt2 : s < q
            · have HE := Lib.hid (HST.out s hlt2)
              have d0 : wr.cell? ⟨g, 0, none⟩ = some (.int .i64 h0) := hblk.cell 0
              have hzi := hbi.size
              have hgl : g < wr.heap.size := hblk.lt
              obtain ⟨x, hx⟩ : ∃ x, mixL [key, h0, (s : Int)] = x := ⟨_, rfl⟩
              have hm0 : -1 ≤ x ∧ x ≤ 1000002 := by rw [← hx]; exact mixL_bd _
              rw [hx] at HE
              have HX := Lib.hid hx
              clear hx
              obtain ⟨⟨r1, r2⟩, hr⟩ : ∃ p, rdvS us key k s = p := ⟨_, rfl⟩
              rw [hr] at HE ⊢
              clear hr
              by_cases hgt : r2 < x
              · have HE2 : RowKit.Hid (rdvS us key k (s + 1) = (h0, x)) := Lib.hid (by rw [HE.out]; unfold best1; rw [if_pos hgt])
                go_wp2_with (go_at_call 70; refine (mix_any _ 3 3 [key, h0, (s : Int)] _ (sl_new3 _ _ _ _ rfl) (by omega)).mono ?_; rw [HX.out]; rintro e w1 ⟨rfl, rfl⟩)
                go_roundw
                case rel => exact ⟨s + 1, by omega, by go_num, by rw [HE2.out], by rw [HE2.out], hblk.alloc _, hbi.alloc hzi _⟩
                case measure => simp [intOf]; omega
              · have HE2 : RowKit.Hid (rdvS us key k (s + 1) = (r1, r2)) := Lib.hid (by rw [HE.out]; unfold best1; rw [if_neg hgt])
                go_wp2_with (go_at_call 70; refine (mix_any _ 3 3 [key, h0, (s : Int)] _ (sl_new3 _ _ _ _ rfl) (by omega)).mono ?_; rw [HX.out]; rintro e w1 ⟨rfl, rfl⟩)
                go_roundw
                case rel => exact ⟨s + 1, by omega, by go_num, by rw [HE2.out], by rw [HE2.out], hblk.alloc _, hbi.alloc hzi _⟩
                case measure => simp [intOf]; omega
            · obtain rfl : q = s := by omega
              go_wp2
              go_roundw
              case rel => exact ⟨k + 1, by omega, by go_num, by rw [HN.out], by rw [HN.out], hbi⟩
              case measure => simp [intOf]; omega
        · obtain rfl : m = k := by omega
          go_wp2
          go_ret
          exact ⟨rfl, hbb.trans (hb.mono hbb.size)⟩
    · have hk' := Bool.eq_false_iff.2 hk
      have HR : RowKit.Hid (rdv hs key = -1) := Lib.hid (by unfold rdv; rw [if_neg (fun h => hk h.2)])
      rw [HR.out]
      clear hk
      go_enter Try.func46, Try.ntmps46
      go_wp2_with (first | (go_at_call 19; refine (iPoolValid_any _ _ _ hs _ hS hhi hn).mono ?_; rw [hv]; rintro e w1 ⟨rfl, hb1⟩) | (go_at_call 44; refine (isKey_any _ _).mono ?_; rw [hk']; rintro e w1 ⟨rfl, rfl⟩))
      go_ret
      exact ⟨rfl, hb1⟩
  · have hv' := Bool.eq_false_iff.2 hv
    have HR : RowKit.Hid (rdv hs key = -1) := Lib.hid (by unfold rdv; rw [if_neg (fun h => hv h.1)])
    rw [HR.out]
    clear hv
    go_enter Try.func46, Try.ntmps46
    go_wp2_with (go_at_call 19; refine (iPoolValid_any _ _ _ hs _ hS hhi hn).mono ?_; rw [hv']; rintro e w1 ⟨rfl, hb1⟩)
    go_ret
    exact ⟨rfl, hb1⟩
end Go.Proofs.Ytfobcggcilbgbaa
