/-
  The walk of the drawn law FnEventsValid.
-/
import Derived.Test.YtjiebaidjflkjaaDrawEvents
import Derived.Test.YtjiebaidjflkjaaEvValid
namespace Go.Proofs.Ytjiebaidjflkjaa
open Go.RowKit
set_option linter.unusedVariables false

theorem wpList_wanted {P : Program} {ops : Array Oper} {Q : Exit → Act → World → Prop} {a : Act} {w : World} {rest : List Oper} {o : Oper} (hw : Region.wanted o (yielded ops a.tmps) = true)
    (h : ∀ K : Act → World → Prop, (∀ a w, wpList P ops Q rest a w → K a w) → o.wp P a w K Q) : wpList P ops Q (o :: rest) a w :=
  wpList_step fun K hK => by simp only [hw, if_true]; exact h K hK
theorem evs_one (es : List Ev6) : ∀ u ∈ evsV es, u.oneCell' = true := by
  induction es with
  | nil => intro u hu; simp [evsV, recV] at hu
  | cons e r ih =>
    intro u hu
    unfold evsV recV at hu
    rcases List.mem_append.1 hu with h | h
    · exact six_int _ _ _ _ _ _ u h
    · exact ih u h

set_option maxHeartbeats 1600000 in
theorem wFnEventsValid (A : Option Addr) (n c : Nat) (zs : List Int) (w : World) (hs : Sl w 0 w.heap.size 1 A n (zs.map (Value.int .u8))) (hnc : n ≤ c) (hm : c ≤ maxLen) (hw : ∀ z ∈ zs, (Lit.int .u8 z).wf = true) :
    Calls Try.prog 14 #[.slice A n c] w fun e w' => e = .returned (.bool true) ∧ Below w.heap.size w w' := by
  unfold maxLen at hm
  have hz := AllByte.of_wf hw
  clear hw
  obtain ⟨i0, ti, tz, ts, tb⟩ := info_parts infoE
  have tzc : (Value.agg #[.int .i64 0, .int .i64 0, .int .i64 0, .int .i64 0, .int .i64 0, .int .i64 0]).cells.size = 6 := by kernel_rfl
  by_cases hn : n ≤ 1048576
  · have hn1 : ¬ ((1048576 : Int) < (n : Int)) := by omega
    go_enter Try.func14, Try.ntmps14
    go_wp2_with fail
    refine (drawEvents_any _ _ _ zs _ hs hnc (by omega) hz).mono ?_
    rintro e w1 ⟨B, k, kc, es, rfl, hk, hkc, hkm, own, b1⟩
    unfold maxLen at hkm
    have s1 := Sl.of_own own
    go_wp2_with fail
    refine (iEventsValid_any _ _ _ es _ s1 (Nat.le_refl _) (by omega)).mono ?_
    rintro e w2 ⟨rfl, b2⟩
    have s2 := s1.below b2 (Nat.le_refl _)
    have d2 := b1.trans (b2.mono b1.size)
    go_wp2_with fail
    refine (sEventsValid_any _ _ _ es _ s2 b2.size (by omega)).mono ?_
    rintro e w3 ⟨rfl, b3⟩
    have s3 := s2.below b3 b2.size
    have z2 := b2.size
    have z3 := b3.size
    have d3 := d2.trans (b3.mono d2.size)
    by_cases hv : evV es = true
    · have hdrop := Lib.hid (evV_drop (k / 2) hv)
      rw [hv]
      by_cases hkk : kc = k / 2
      · have hk0 : k = 0 := by omega
        have hkc0 : kc = 0 := by omega
        subst hk0 hkc0
        go_wp2_with fail
        refine (iEventsValid_any _ _ _ _ _ s3 (by omega) (by omega)).mono ?_
        rw [hv]
        rintro e w3' ⟨rfl, b3'⟩
        have z3' := b3'.size
        have s3' := s3.below b3' (by omega)
        have d3' := d3.trans (b3'.mono d3.size)
        go_wp2_with (at_builtin; first
          | (refine wpList_wanted (by rfl) fun _ hK => wp_append_sl _ _ _ 51 rfl w3.heap.size 57 i0 _ 6 48 Try.underlying51 ti tz ts tb tzc (by decide) _ 0 [] (by rfl) ((World.ownsRow_lit (base := w3.heap.size) (e := 57) (size := 6) w3' #[] 0 (by omega) (by unfold maxLen; omega) (by simp))) _ _ B 0 0 (evsV es) rfl (s3'.alloc (by omega) _) (evs_one es) (by unfold maxLen; omega) (by omega) (by simp <;> omega) fun v4 w4 own4 g4 at4 => hK _ _ ?_)
          | (refine wpList_wanted (by rfl) fun _ hK => wp_append_sl _ _ _ 51 rfl w3.heap.size 57 i0 _ 6 48 Try.underlying51 ti tz ts tb tzc (by decide) _ (0 + 0) _ (by rfl) (own4.alloc _) _ _ (some ⟨w4.heap.size, 0, none⟩) 1 1 [.int .i64 (-1), .int .i64 0, .int .i64 0, .int .i64 0, .int .i64 0, .int .i64 0] rfl (Sl.new #[.int .i64 (-1), .int .i64 0, .int .i64 0, .int .i64 0, .int .i64 0, .int .i64 0] 57 6 1 rfl) (six_int _ _ _ _ _ _) (by unfold maxLen; omega) (by omega) (by have := g4.size; simp at this ⊢; omega) fun v5 w5 own5 g5 at5 => hK _ _ ?_))
        rw [List.nil_append, evsV_snoc] at own5
        have z4 := g4.size
        have z5 := g5.size
        simp only [World.size_alloc] at z4 z5
        have d4 := (d3'.alloc d3'.size (.cells #[] 57)).grown g4 (by simp; have := d3'.size; omega) (fun q hq => by simp [Value.ownBlock] at hq; have := d3'.size; omega)
        have d5 := (d4.alloc d4.size (.cells #[.int .i64 (-1), .int .i64 0, .int .i64 0, .int .i64 0, .int .i64 0, .int .i64 0] 57)).grown g5 (by simp; have := d4.size; omega) (fun q hq => by have := (own4.lt _ hq).1; have := d3.size; omega)
        obtain ⟨A5, a5, rfl, e5, e6⟩ := own_is_slice own5
        unfold maxLen at e6
        refine (iEventsValid_any _ _ _ _ _ (Sl.of_own own5) (Nat.le_refl _) (by omega)).mono ?_
        rw [evV_bad es _ (by rfl)]
        rintro e w6 ⟨rfl, b6⟩
        go_wp2_with (go_at_call 20; refine (alive_any _).mono ?_; rintro e w7 ⟨rfl, b7⟩)
        go_ret
        exact ⟨rfl, (d5.trans (b6.mono d5.size)).trans (b7.mono (Nat.le_trans d5.size b6.size))⟩
      · have scut := s3.cut (k := k / 2) (cap := kc) (by omega) hkc
        rw [if_neg hkk, recV_drop evC_len] at scut
        go_wp2_with fail
        refine (iEventsValid_any _ _ _ _ _ scut (by omega) (by omega)).mono ?_
        rw [hdrop.out]
        rintro e w3' ⟨rfl, b3'⟩
        have z3' := b3'.size
        have s3' := s3.below b3' (by omega)
        have d3' := d3.trans (b3'.mono d3.size)
        go_wp2_with (at_builtin; first
          | (refine wpList_wanted (by rfl) fun _ hK => wp_append_sl _ _ _ 51 rfl w3.heap.size 57 i0 _ 6 48 Try.underlying51 ti tz ts tb tzc (by decide) _ 0 [] (by rfl) ((World.ownsRow_lit (base := w3.heap.size) (e := 57) (size := 6) w3' #[] 0 (by omega) (by unfold maxLen; omega) (by simp))) _ _ B k kc (evsV es) rfl (s3'.alloc (by omega) _) (evs_one es) (by unfold maxLen; omega) (by omega) (by simp <;> omega) fun v4 w4 own4 g4 at4 => hK _ _ ?_)
          | (refine wpList_wanted (by rfl) fun _ hK => wp_append_sl _ _ _ 51 rfl w3.heap.size 57 i0 _ 6 48 Try.underlying51 ti tz ts tb tzc (by decide) _ (0 + k) _ (by rfl) (own4.alloc _) _ _ (some ⟨w4.heap.size, 0, none⟩) 1 1 [.int .i64 (-1), .int .i64 0, .int .i64 0, .int .i64 0, .int .i64 0, .int .i64 0] rfl (Sl.new #[.int .i64 (-1), .int .i64 0, .int .i64 0, .int .i64 0, .int .i64 0, .int .i64 0] 57 6 1 rfl) (six_int _ _ _ _ _ _) (by unfold maxLen; omega) (by omega) (by have := g4.size; simp at this ⊢; omega) fun v5 w5 own5 g5 at5 => hK _ _ ?_))
        rw [List.nil_append, evsV_snoc] at own5
        have z4 := g4.size
        have z5 := g5.size
        simp only [World.size_alloc] at z4 z5
        have d4 := (d3'.alloc d3'.size (.cells #[] 57)).grown g4 (by simp; have := d3'.size; omega) (fun q hq => by simp [Value.ownBlock] at hq; have := d3'.size; omega)
        have d5 := (d4.alloc d4.size (.cells #[.int .i64 (-1), .int .i64 0, .int .i64 0, .int .i64 0, .int .i64 0, .int .i64 0] 57)).grown g5 (by simp; have := d4.size; omega) (fun q hq => by have := (own4.lt _ hq).1; have := d3.size; omega)
        obtain ⟨A5, a5, rfl, e5, e6⟩ := own_is_slice own5
        unfold maxLen at e6
        refine (iEventsValid_any _ _ _ _ _ (Sl.of_own own5) (Nat.le_refl _) (by omega)).mono ?_
        rw [evV_bad es _ (by rfl)]
        rintro e w6 ⟨rfl, b6⟩
        go_wp2_with (go_at_call 20; refine (alive_any _).mono ?_; rintro e w7 ⟨rfl, b7⟩)
        go_ret
        exact ⟨rfl, (d5.trans (b6.mono d5.size)).trans (b7.mono (Nat.le_trans d5.size b6.size))⟩
    · have hv := Bool.eq_false_iff.2 hv
      rw [hv]
      go_wp2_with (at_builtin; first
        | (refine wpList_wanted (by rfl) fun _ hK => wp_append_sl _ _ _ 51 rfl w3.heap.size 57 i0 _ 6 48 Try.underlying51 ti tz ts tb tzc (by decide) _ 0 [] (by rfl) ((World.ownsRow_lit (base := w3.heap.size) (e := 57) (size := 6) w3 #[] 0 (Nat.le_refl _) (by unfold maxLen; omega) (by simp))) _ _ B k kc (evsV es) rfl (s3.alloc (by omega) _) (evs_one es) (by unfold maxLen; omega) (by omega) (by simp <;> omega) fun v4 w4 own4 g4 at4 => hK _ _ ?_)
        | (refine wpList_wanted (by rfl) fun _ hK => wp_append_sl _ _ _ 51 rfl w3.heap.size 57 i0 _ 6 48 Try.underlying51 ti tz ts tb tzc (by decide) _ (0 + k) _ (by rfl) (own4.alloc _) _ _ (some ⟨w4.heap.size, 0, none⟩) 1 1 [.int .i64 (-1), .int .i64 0, .int .i64 0, .int .i64 0, .int .i64 0, .int .i64 0] rfl (Sl.new #[.int .i64 (-1), .int .i64 0, .int .i64 0, .int .i64 0, .int .i64 0, .int .i64 0] 57 6 1 rfl) (six_int _ _ _ _ _ _) (by unfold maxLen; omega) (by omega) (by have := g4.size; simp at this ⊢; omega) fun v5 w5 own5 g5 at5 => hK _ _ ?_))
      rw [List.nil_append, evsV_snoc] at own5
      have z4 := g4.size
      have z5 := g5.size
      simp only [World.size_alloc] at z4 z5
      have d4 := (d3.alloc d3.size (.cells #[] 57)).grown g4 (by simp; have := d3.size; omega) (fun q hq => by simp [Value.ownBlock] at hq; have := d3.size; omega)
      have d5 := (d4.alloc d4.size (.cells #[.int .i64 (-1), .int .i64 0, .int .i64 0, .int .i64 0, .int .i64 0, .int .i64 0] 57)).grown g5 (by simp; have := d4.size; omega) (fun q hq => by have := (own4.lt _ hq).1; have := d3.size; omega)
      obtain ⟨A5, a5, rfl, e5, e6⟩ := own_is_slice own5
      unfold maxLen at e6
      refine (iEventsValid_any _ _ _ _ _ (Sl.of_own own5) (Nat.le_refl _) (by omega)).mono ?_
      rw [evV_bad es _ (by rfl)]
      rintro e w6 ⟨rfl, b6⟩
      go_wp2_with (go_at_call 20; refine (alive_any _).mono ?_; rintro e w7 ⟨rfl, b7⟩)
      go_ret
      exact ⟨rfl, (d5.trans (b6.mono d5.size)).trans (b7.mono (Nat.le_trans d5.size b6.size))⟩
  · go_enter Try.func14, Try.ntmps14
    go_wp2
    go_ret
    exact ⟨rfl, Below.refl _ _⟩
end Go.Proofs.Ytjiebaidjflkjaa
