/-
  SetState of impl, where the host is there.
-/
import Derived.Test.YtfobcggcilbgbaaHostL
import Derived.Test.YtfobcggcilbgbaaDrawHost
namespace Go.Proofs.Ytfobcggcilbgbaa
open Go.RowKit
set_option linter.unusedVariables false

theorem hostsV_set2 (hs : List H3) : ∀ (k : Nat) (y : Int), k < hs.length → (hostsV hs).set (k * 3 + 2) (.int .i64 y) = hostsV (hs.set k ((hAt hs k).1, (hAt hs k).2.1, y)) := by
  induction hs with
  | nil => intro k y h; simp at h
  | cons h r ih =>
    intro k y hk
    cases k with
    | zero => simp [hostsV, hostC, hAt]
    | succ k =>
      have e0 : (k + 1) * 3 + 2 = k * 3 + 2 + 1 + 1 + 1 := by omega
      rw [e0]
      have := ih k y (by simpa using hk)
      have e : hAt (h :: r) (k + 1) = hAt r k := by simp [hAt]
      simp only [List.set_cons_succ, hostsV, hostC, List.cons_append, List.nil_append, e]
      rw [← this]
theorem hosts_ones (hs : List H3) : ∀ u ∈ hostsV hs, u.oneCell' = true := by
  induction hs with
  | nil => intro u h; simp [hostsV] at h
  | cons x r ih =>
    intro u h
    simp [hostsV, hostC] at h
    rcases h with rfl | rfl | rfl | h
    · rfl
    · rfl
    · rfl
    · exact ih u h
theorem setSt_at {hs : List H3} (hv : poolV hs = true) {k : Nat} (hk : k < hs.length) {x s : Int} (hx : (hAt hs k).1 = x) : setSt hs x s = hs.set k ((hAt hs k).1, (hAt hs k).2.1, s) := by
  have e0 : setSt hs x s = hs.map fun h => if h.1 = x then (h.1, h.2.1, s) else h := rfl
  rw [e0]
  apply List.ext_getElem
  · simp
  · intro j h1 h2
    have hj : j < hs.length := by simpa using h1
    rw [List.getElem_set, List.getElem_map]
    by_cases e : k = j
    · subst e
      rw [if_pos rfl, if_pos (by rw [← hAt_eq hj]; exact hx), hAt_eq hj]
    · rw [if_neg e, if_neg]
      intro h
      have ha := List.pairwise_iff_getElem.1 (pool_asc' hv)
      rw [hAt_eq hk] at hx
      rcases Nat.lt_or_gt_of_ne e with h' | h'
      · have := ha k j hk hj h'; omega
      · have := ha j k hj hk h'; omega

/-- A call hands back a row of its own and true. -/
def RetOwnT (w : World) (T : TypeId) (size n : Nat) (xs : List Value) (e : Ending) (w' : World) : Prop := ∃ A c, e = .returned (.tuple #[.slice A n c, .bool true]) ∧ w'.ownsRow w.heap.size T size (.slice A n c) n xs ∧ Below w.heap.size w w'

set_option maxRecDepth 100000 in
set_option maxHeartbeats 1600000 in
theorem iSetState_yes (A : Option Addr) (n c : Nat) (hs : List H3) (x st : Int) (w : World) {lo hi : Nat} (hS : Sl w lo hi 3 A n (hostsV hs)) (hhi : hi ≤ w.heap.size) (hn : n ≤ 1048576) (hv : poolV hs = true) {k : Nat} (hk : k < n) (hx : (hAt hs k).1 = x) (h2 : inB st 0 2 = true) :
    Calls Try.prog 20 #[.slice A n c, .int .i64 x, .int .i64 st] w (RetOwnT w 39 3 n (hostsV (setSt hs x st))) := by
  have HL := Lib.hid hS.hlen
  obtain ⟨i0, hi0, hz0, hz1, hz2⟩ := info_parts infoHost
  rcases atH_cases hs x with ⟨h1, h3⟩ | ⟨i, hil, h1, h3, _⟩
  · exact absurd hx (h3 k (by rw [HL.out]; exact hk))
  · have HE : RowKit.Hid (hostsV (setSt hs x st) = (hostsV hs).set (i * 3 + 2) (.int .i64 st)) := Lib.hid (by rw [setSt_at hv hil h3, hostsV_set2 hs i st hil])
    have hin : i < n := by rw [← HL.out]; exact hil
    have hii : (0 : Int) ≤ (i : Int) := by omega
    have hii2 : (i : Int) < (n : Int) := by omega
    obtain ⟨x0, x1, x2⟩ := hostsV_at hs i hil
    have HX2 := Lib.hid x2
    have H1 := Lib.hid h1
    clear h1 h3 x0 x1 x2 hx
    go_enter Try.func20, Try.ntmps20
    go_upto_region 5 with (first | (go_at_call 58; refine (hostAt_any _ _ _ hs _ _ hS hhi hn).mono ?_; rw [H1.out]; rintro e w1 ⟨rfl, hb1⟩) | (go_at_call 19; refine (iPoolValid_any _ _ _ hs _ (hS.below hb1 hhi) (Nat.le_trans hhi hb1.size) hn).mono ?_; rw [hv]; rintro e w2 ⟨rfl, hb2⟩; have hbb := hb1.trans (hb2.mono hb1.size)) | (go_at_call 59; refine (in_any _ _ _ _).mono ?_; rw [h2]; rintro e w' ⟨rfl, rfl⟩) | (at_builtin; refine wpList_append_sl _ rfl _ _ 25 rfl w.heap.size 39 i0 _ 3 24 Try.underlying25 hi0 hz0 hz1 hz2 rfl (by decide) (.slice none 0 0) 0 [] rfl (World.ownsRow_nil _ _ _ _) lo hi A n c (hostsV hs) rfl (hS.below hbb hhi) (hosts_ones hs) (by unfold maxLen; omega) (by omega) hbb.size ?_; intro v w3 hown hg3 hat3))
    simp only [Nat.zero_add, List.nil_append] at hown
    have hb3 := below_append hbb (World.ownsRow_nil w2 w.heap.size 39 3) hg3
    clear hat3 hg3
    obtain ⟨g, cap, hvv, hg0, hg1⟩ := hown.form (by omega)
    subst hvv
    have d1 := (hown.cellAt (i * 3 + 2) (by omega)).trans HX2.out
    have df := hown.frozenAt
    have hst := (hown.stored (i * 3 + 2) (.int .i64 st)).1
    rw [← HE.out] at hst
    have hbs := hb3.setCell (p := ⟨g, i * 3 + 2, none⟩) hg0 (.int .i64 st)
    go_wp2
    refine bodyPost_ret (v := .tuple #[.slice (some ⟨g, 0, none⟩) n cap, .bool true]) ?_ rfl ⟨_, _, rfl, hst, hbs⟩
    simp [results, Try.results20, go_sem]
end Go.Proofs.Ytfobcggcilbgbaa
