/-
  Steps of a drawn region whose calls may pick often (k hundred picks an operation), and of tables of flows.
-/
import Derived.Test.YtgdcfhifiincaaaDrawFlow6
import Derived.Test.YtgdcfhifiincaaaPool
import Derived.Test.YtgdcfhifiincaaaTouch2
namespace Go.Proofs.Ytgdcfhifiincaaa
open Go.RowKit
set_option linter.unusedVariables false

/-- A number drawn, and the reader alone changed. -/
def DrewNum (w : World) (g P : Nat) (e : Ending) (w' : World) : Prop := ∃ v : Int, e = .returned (.int .i64 v) ∧ RdC w w' g P ∧ w.grownBy w' (some g)
set_option maxHeartbeats 800000 in
theorem number_any (g P : Nat) (A : Option Addr) (n c : Nat) (hs : List H3) (w : World) {lo hi : Nat} (h : Rd w g P) (hP : P ≤ 50000000) (hS : Sl w lo hi 3 A n (hostsV hs)) (hhi : hi ≤ w.heap.size) (hg : g < lo) (hn : n ≤ 1000) :
    Calls Try.prog 63 #[.pointer (some ⟨g, 0, none⟩), .slice A n c] w (DrewNum w g (P + 10)) := by
  have D := Dw.start h
  have last : ∀ w1, Dw w g (P + 1) w1 → Calls Try.prog 59 #[.pointer (some ⟨g, 0, none⟩), .int .i64 32] w1 (Picked w1 g (P + 2) 0 31) := fun w1 D1 => pick_any _ _ _ _ D1.rd (by omega) (by omega) (by omega)
  by_cases hn0 : n = 0
  · subst hn0
    go_enter Try.func63, Try.ntmps63
    go_wp2_with fail
    refine (last _ (D.more (by omega))).mono ?_
    rintro e w2 ⟨y, y0, y1, rfl, hr2, hg2⟩
    go_wp2
    go_ret
    exact ⟨_, rfl, ⟨hr2.1.more (by omega), hr2.2⟩, hg2⟩
  · have hn1 : 0 < n := by omega
    go_enter Try.func63, Try.ntmps63
    go_wp2_with fail
    refine (pick_any _ _ _ _ h (by omega) (by omega) (by omega)).mono ?_
    rintro e w1 ⟨y, y0, y1, rfl, hr1, hg1⟩
    have D1 := D.picked hr1 hg1
    have s1 := hS.grown hg1 hhi (fun q hq => by cases hq; right; omega)
    have z1 := hg1.size
    by_cases hy : 0 < y
    · go_wp2_with fail
      refine (pick_any _ _ _ _ D1.rd (by omega) (by omega) (by omega)).mono ?_
      rintro e w2 ⟨z, z0, z1', rfl, hr2, hg2⟩
      have D2 := D1.picked hr2 hg2
      have s2 := s1.grown hg2 (by omega) (fun q hq => by cases hq; right; omega)
      obtain ⟨k, rfl⟩ : ∃ k : Nat, z = (k : Int) := ⟨z.toNat, by omega⟩
      obtain ⟨b, off, rfl, _, _, c0, c1, c2⟩ := s2.host (k := k) (by omega)
      obtain ⟨u, hu⟩ : ∃ u, (hAt hs k).1 = u := ⟨_, rfl⟩
      rw [hu] at c0
      have hki2 : (k : Int) < (n : Int) := by omega
      clear hu c1 c2
      go_wp2
      go_ret
      exact ⟨_, rfl, ⟨D2.rd.more (by omega), D2.c0⟩, D2.gr⟩
    · go_wp2_with fail
      refine (last _ D1).mono ?_
      rintro e w2 ⟨z, z0, z1', rfl, hr2, hg2⟩
      have D2 := D1.picked hr2 hg2
      go_wp2
      go_ret
      exact ⟨_, rfl, ⟨D2.rd.more (by omega), D2.c0⟩, D2.gr⟩
def Gw (k : Nat) (W : World) (g P0 : Nat) (F : Nat → Prop) (E : World → Prop) (p : Nat) (w : World) : Prop := Gd W g P0 F E (k * p) w
theorem Gw.more {k : Nat} {W : World} {g P0 : Nat} {F : Nat → Prop} {E : World → Prop} (p p' : Nat) (w : World) (h : p ≤ p') (hg : Gw k W g P0 F E p w) : Gw k W g P0 F E p' w := Gd.more _ _ _ (Nat.mul_le_mul_left k h) hg
/-- A number, whatever it is; a flow; an entry. -/
def tZ : VT := fun u _ => ∃ z : Int, u = .int .i64 z
def tF5 : VT := fun u _ => ∃ a b c d k : Int, u = .agg #[.int .i64 a, .int .i64 b, .int .i64 c, .int .i64 d, .int .i64 k]
def tE7 : VT := fun u _ => ∃ e : En7, u = .agg (enC e).toArray
def tE7row (B : Nat) : VT := fun u w => ∃ (b : Nat) (e : En7), u = .slice (some ⟨b, 0, none⟩) 1 1 ∧ B ≤ b ∧ Blk w b 56 (enC e).toArray
/-- A table whose entries are a row made since B. -/
def TabIs (B M : Nat) (cs : Array Value) (w : World) : Prop := ∃ (sz st : Int) (A : Option Addr) (m c : Nat) (es : List En7), cs = #[.int .i64 sz, .int .i64 st, .slice A m c] ∧ m ≤ M ∧ m ≤ c ∧ c ≤ maxLen ∧ w.ownsRow B 56 7 (.slice A m c) m (ensV es)
def tTab (B M : Nat) : VT := fun u w => ∃ cs, u = .agg cs ∧ TabIs B M cs w
def tTabT (B M : Nat) : VT := fun u w => ∃ (cs : Array Value) (ok : Bool), u = .tuple #[.agg cs, .bool ok] ∧ TabIs B M cs w
def tTabB (B M : Nat) : VT := fun u w => ∃ (b : Nat) (cs : Array Value), u = .pointer (some ⟨b, 0, none⟩) ∧ B ≤ b ∧ Blk w b 34 cs ∧ TabIs B M cs w
theorem own_grf {w w' : World} {B : Nat} {F : Nat → Prop} {e : TypeId} {size n : Nat} {v : Value} {xs : List Value} (hg : GrF F w w') (h : w.ownsRow B e size v n xs) (hF : ∀ k, v.ownBlock = some k → ¬ F k) : w'.ownsRow B e size v n xs := by
  refine ⟨h.1, ?_⟩
  rcases h.2 with h | ⟨g, cap, cur, e1, e2, e3, e4⟩
  · exact .inl h
  · exact .inr ⟨g, cap, cur, e1, e2, (hg.block g (Array.getElem?_eq_some_iff.1 e3).1 (hF g (by rw [e1]; rfl))).trans e3, e4⟩
theorem TabIs.grf {w w' : World} {B M : Nat} {F : Nat → Prop} {cs : Array Value} (hg : GrF F w w') (h : TabIs B M cs w) (hF : ∀ k, B ≤ k → ¬ F k) : TabIs B M cs w' := by
  obtain ⟨sz, st, A, m, c, es, rfl, h1, h2, h3, own⟩ := h
  exact ⟨sz, st, A, m, c, es, rfl, h1, h2, h3, own_grf hg own fun k hk => hF k (own.lt k hk).1⟩
/-- A block of a table is written: the rows of entries lie elsewhere. -/
theorem TabIs.far {w w' : World} {B M q : Nat} {cs cq : Array Value} (hg : GrF (· = q) w w') (h : TabIs B M cs w) (hq : Blk w q 34 cq) : TabIs B M cs w' := by
  obtain ⟨sz, st, A, m, c, es, rfl, h1, h2, h3, own⟩ := h
  exact ⟨sz, st, A, m, c, es, rfl, h1, h2, h3, own_grf hg own fun k hk e => own_neN own hq (by decide) (by rw [hk, e])⟩
theorem stab_z {B : Nat} : Stab B tZ := fun _ _ _ _ h => h
theorem stab_f5 {B : Nat} : Stab B tF5 := fun _ _ _ _ h => h
theorem stab_e7 {B : Nat} : Stab B tE7 := fun _ _ _ _ h => h
theorem stab_e7row {B : Nat} : Stab B (tE7row B) := by
  rintro v w w' hg ⟨b, e, rfl, hb, hk⟩
  exact ⟨b, e, rfl, hb, (hg.block b hk.lt (by omega)).trans hk⟩
theorem stab_tab {B M : Nat} : Stab B (tTab B M) := by
  rintro v w w' hg ⟨cs, rfl, h⟩
  exact ⟨cs, rfl, h.grf hg (fun k hk => by omega)⟩
theorem stab_tabt {B M : Nat} : Stab B (tTabT B M) := by
  rintro v w w' hg ⟨cs, ok, rfl, h⟩
  exact ⟨cs, ok, rfl, h.grf hg (fun k hk => by omega)⟩
theorem stab_tabb {B M : Nat} : Stab B (tTabB B M) := by
  rintro v w w' hg ⟨b, cs, rfl, hb, hk, h⟩
  exact ⟨b, cs, rfl, hb, (hg.block b hk.lt (by omega)).trans hk, h.grf hg (fun k hk => by omega)⟩
/-- What is known is still known where a table is written into a block of tables. -/
def Firm (B M : Nat) (T : VT) : Prop := ∀ u w w' b cq cs, GrF (· = b) w w' → B ≤ b → Blk w b 34 cq → Blk w' b 34 cs → TabIs B M cs w' → T u w → T u w'
section
variable {B M : Nat}
theorem firm_lit {v : Value} : Firm B M (tLit v) := fun _ _ _ _ _ _ _ _ _ _ _ h => h
theorem firm_z : Firm B M tZ := fun _ _ _ _ _ _ _ _ _ _ _ h => h
theorem firm_f5 : Firm B M tF5 := fun _ _ _ _ _ _ _ _ _ _ _ h => h
theorem firm_bool : Firm B M tBool := fun _ _ _ _ _ _ _ _ _ _ _ h => h
theorem firm_tab : Firm B M (tTab B M) := by
  rintro u w w' b cq cs hg hb hq hq' ht ⟨cs', rfl, h⟩
  exact ⟨cs', rfl, h.far hg hq⟩
theorem firm_tabt : Firm B M (tTabT B M) := by
  rintro u w w' b cq cs hg hb hq hq' ht ⟨cs', ok, rfl, h⟩
  exact ⟨cs', ok, rfl, h.far hg hq⟩
theorem firm_tabb : Firm B M (tTabB B M) := by
  rintro u w w' b cq cs hg hb hq hq' ht ⟨b', cs', rfl, hb', hk, h⟩
  by_cases e : b' = b
  · subst e
    exact ⟨b', cs, rfl, hb', hq', ht⟩
  · exact ⟨b', cs', rfl, hb', (hg.block b' hk.lt e).trans hk, h.far hg hq⟩
def FirmL (B M : Nat) : List (Nat × VT) → Prop
  | [] => True
  | (_, T) :: r => Firm B M T ∧ FirmL B M r
theorem FirmL.at_ : ∀ (l : List (Nat × VT)) (s : Nat) (T : VT), FirmL B M l → l.lookup s = some T → Firm B M T := by
  intro l
  induction l with
  | nil => intro s T _ h; simp at h
  | cons x r ih =>
    intro s T h hl
    obtain ⟨k, T'⟩ := x
    rw [List.lookup_cons] at hl
    split at hl
    · cases hl; exact h.1
    · exact ih s T h.2 hl
theorem firm_ts {old : List (Nat × Value)} {new : List (Nat × VT)} (h : FirmL B M new) (s : Nat) : Firm B M (tsOf old new s) := by
  intro u w w' b cq cs hg hb hq hq' ht hT
  unfold tsOf at hT ⊢
  cases ho : old.lookup s with
  | some v => rw [ho] at hT; exact hT
  | none =>
    rw [ho] at hT
    cases hn : new.lookup s with
    | none => trivial
    | some T =>
      rw [hn] at hT
      exact FirmL.at_ new s T h hn u w w' b cq cs hg hb hq hq' ht hT
end
theorem built_ent (a b c d k t l : Int) : Try.prog.built 56 [(0, .agg #[.int .i64 a, .int .i64 b, .int .i64 c, .int .i64 d, .int .i64 k]), (1, .int .i64 t), (2, .int .i64 l)] = some (enC ⟨a, b, c, d, k, t, l⟩).toArray := by kernel_rfl
theorem built_ent2 (a b c d k l : Int) : Try.prog.built 56 [(0, .agg #[.int .i64 a, .int .i64 b, .int .i64 c, .int .i64 d, .int .i64 k]), (2, .int .i64 l)] = some (enC ⟨a, b, c, d, k, 0, l⟩).toArray := by kernel_rfl
theorem fill_ent (e : En7) : Instr.fill (fun i => some (i * 7, 7)) ((Array.range (1 * 7)).map ((Value.agg #[.int .i64 0, .int .i64 0, .int .i64 0, .int .i64 0, .int .i64 0, .int .i64 0, .int .i64 0]).cells[· % (Value.agg #[.int .i64 0, .int .i64 0, .int .i64 0, .int .i64 0, .int .i64 0, .int .i64 0, .int .i64 0]).cells.size]!)) [(0, .agg (enC e).toArray)] = some (enC e).toArray := by
  obtain ⟨a, b, c, d, k, t, l⟩ := e
  kernel_rfl

section
variable {Q : Exit → Act → World → Prop} {TS : Nat → Value → World → Prop} {X : Nat → World → Prop} {W : World} {g P0 B N k : Nat} {F : Nat → Prop} {E : World → Prop} {i : Nat} {d : Nat} {ty t t2 : TypeId} {pos : String} {af : Array Edge} {x y : Operand}
theorem step_wide {o : Oper} (hk : 0 < k) (h : TStep Try.prog Q TS X (Gd W g P0 F E) (k * N) i o) : TStep Try.prog Q TS X (Gw k W g P0 F E) N i o :=
  fun b w p hp hG ho K hK => h b w (k * p) ((Nat.mul_lt_mul_left hk).2 hp) hG ho K fun v w' hG' a1 a2 a3 a4 => hK v w' (Gd.more _ _ _ (by rw [Nat.mul_succ]; omega) hG') a1 a2 a3 a4
/-- A call that picks often, or not at all. -/
theorem t_callw (C : Ctx Try.prog g P0 B (k * N) F E TS X) (hP : P0 + 100 * (k * N) ≤ 50000000) (hXi : ∀ w, X i w) {T : VT} {f : FuncId} {xs : Array Operand} {ts : Array TypeId} {fn : Func} (hf : Try.prog.funcs[f]? = some fn) (hb : fn.body.isNone = false) (hn : (fn.name == "runtime.NumGoroutine") = false) (hd : TS d = T)
    (hc : ∀ (o : Oper) (b : Act) (w : World), (∀ x ∈ xs.toList, x ∈ o.op.operands.toList) → GrF F W w → Opd TS o b w → ∀ q, q + 100 * k ≤ 50000000 → Rd w g q → Calls Try.prog f (xs.map b.eval) w fun e w' => ∃ v, e = .returned v ∧ RdC w w' g (q + 100 * k) ∧ w.grownBy w' (some g) ∧ T v w') :
    TStep Try.prog Q TS X (Gw k W g P0 F E) N i ⟨some d, .call { callee := .value (.func f), args := xs, argTypes := ts }, ty, pos, af, none⟩ := by
  intro b w p hp hG hops K hK
  have hkp : k * p + k ≤ k * N := by rw [← Nat.mul_succ]; exact Nat.mul_le_mul_left k hp
  have hG' : Gd W g P0 F E (k * p) w := hG
  unfold Oper.wp
  rw [run_callf w b _ _ _ _ _ hf hb hn, Oper.upon_enter]
  refine (hc _ b w (fun x hx => by simp [Op.operands, Call.operands]; exact .inr (by simpa using hx)) hG'.gr hops _ ?_ hG'.1).mono ?_
  · omega
  · rintro e w' ⟨v, rfl, hrd, hg, hT⟩
    have hg' := GrF.of_grown hg
    refine hK v w' ⟨hrd.1.more (by rw [Nat.mul_succ]; omega), hG'.2.1.trans (hg'.mono fun k hk => by rw [hk]; exact C.gF), hrd.2.trans hG'.2.2.1, C.e w w' ⟨hg', hrd.2⟩ hG'.2.2.2⟩ (fun s u hu => C.st s u w w' (hg'.mono fun k hk => by have := C.gB; omega) hu) (fun j _ hx => C.x j w w' ⟨hg', hrd.2⟩ hx) (fun d' hd' => by cases hd'; rw [hd]; exact hT) (hXi w')
theorem t_flow (C : Ctx Try.prog g P0 B (40 * N) F E TS X) (hP : P0 + 100 * (40 * N) ≤ 50000000) (hXi : ∀ w, X i w) {ts : Array TypeId} {n : Int} (hn0 : 0 ≤ n) (hn1 : n ≤ 1000) (hx : OT TS x (tLit (.pointer (some ⟨g, 0, none⟩)))) (hd : TS d = tF5) :
    TStep Try.prog Q TS X (Gw 40 W g P0 F E) N i ⟨some d, .call { callee := .value (.func 62), args := #[x, .const (.int .i64 n)], argTypes := ts }, ty, pos, af, none⟩ :=
  t_callw C hP hXi Try.func62 (by kernel_rfl) (by kernel_rfl) hd fun o b w hm hG ho q hq hr => by
    have e1 : b.eval x = .pointer (some ⟨g, 0, none⟩) := hx o b w (hm x (by simp)) ho
    rw [show (#[x, .const (.int .i64 n)] : Array Operand).map b.eval = #[.pointer (some ⟨g, 0, none⟩), .int .i64 n] from by simp [e1]; rfl]
    refine (flow_any g q n w hr (by omega) hn0 hn1).mono ?_
    rintro e w' ⟨a1, a2, a3, a4, a5, rfl, D⟩
    exact ⟨_, rfl, ⟨D.rd.more (by omega), D.c0⟩, D.gr, _, _, _, _, _, rfl⟩
theorem t_num (C : Ctx Try.prog g P0 B (40 * N) F E TS X) (hP : P0 + 100 * (40 * N) ≤ 50000000) (hXi : ∀ w, X i w) {ts : Array TypeId} {A : Option Addr} {n c lo hi : Nat} {hs : List H3} (hS : Sl W lo hi 3 A n (hostsV hs)) (hhi : hi ≤ W.heap.size) (hF : ∀ b, lo ≤ b → b < hi → ¬ F b) (hg : g < lo) (hn : n ≤ 1000) (hx : OT TS x (tLit (.pointer (some ⟨g, 0, none⟩)))) (hy : OT TS y (tLit (.slice A n c))) (hd : TS d = tZ) :
    TStep Try.prog Q TS X (Gw 40 W g P0 F E) N i ⟨some d, .call { callee := .value (.func 63), args := #[x, y], argTypes := ts }, ty, pos, af, none⟩ :=
  t_callw C hP hXi Try.func63 (by kernel_rfl) (by kernel_rfl) hd fun o b w hm hG ho q hq hr => by
    have e1 : b.eval x = .pointer (some ⟨g, 0, none⟩) := hx o b w (hm x (by simp)) ho
    have e2 : b.eval y = .slice A n c := hy o b w (hm y (by simp)) ho
    rw [show (#[x, y] : Array Operand).map b.eval = #[.pointer (some ⟨g, 0, none⟩), .slice A n c] from by simp [e1, e2]]
    have hS' := hS.keep (w' := w) fun b o h1 h2 => hG.cell (Nat.lt_of_lt_of_le h2 hhi) (hF b h1 h2)
    refine (number_any g q A n c hs w hr (by omega) hS' (Nat.le_trans hhi hG.size) hg hn).mono ?_
    rintro e w' ⟨v, rfl, hr', hg'⟩
    exact ⟨_, rfl, ⟨hr'.1.more (by omega), hr'.2⟩, hg', v, rfl⟩
theorem grown_of_below {w w' : World} {r : Option Nat} (h : Below w.heap.size w w') : w.grownBy w' r := ⟨h.os, h.tape, h.output, h.size, fun k hk _ => h.block k hk⟩
theorem t_touch (C : Ctx Try.prog g P0 B (40 * N) F E TS X) (hP : P0 + 100 * (40 * N) ≤ 50000000) (hXi : ∀ w, X i w) {ts : Array TypeId} {sz st now : Int} {A : Option Addr} {n c lo hi M : Nat} {es : List En7} {z : Operand} {u : Operand} (hS : Sl W lo hi 7 A n (ensV es)) (hhi : hi ≤ W.heap.size) (hF : ∀ b, lo ≤ b → b < hi → ¬ F b) (hn : n ≤ 1000) (hnc : n ≤ c) (hmx : c ≤ maxLen) (hM : n + 1 ≤ M) (hWB : B ≤ W.heap.size)
    (hx : OT TS x (tLit (.agg #[.int .i64 sz, .int .i64 st, .slice A n c]))) (hy : OT TS y tF5) (hz : OT TS z tZ) (hu : OT TS u (tLit (.int .i64 now))) (hd : TS d = tTabT B M) :
    TStep Try.prog Q TS X (Gw 40 W g P0 F E) N i ⟨some d, .call { callee := .value (.func 61), args := #[x, y, z, u], argTypes := ts }, ty, pos, af, none⟩ :=
  t_callw C hP hXi Try.func61 (by kernel_rfl) (by kernel_rfl) hd fun o b w hm hG ho q hq hr => by
    have e1 : b.eval x = _ := hx o b w (hm x (by simp)) ho
    obtain ⟨f1, f2, f3, f4, f5, e2⟩ := hy o b w (hm y (by simp)) ho
    obtain ⟨zz, e3⟩ := hz o b w (hm z (by simp)) ho
    have e4 : b.eval u = _ := hu o b w (hm u (by simp)) ho
    rw [show (#[x, y, z, u] : Array Operand).map b.eval = #[.agg #[.int .i64 sz, .int .i64 st, .slice A n c], .agg #[.int .i64 f1, .int .i64 f2, .int .i64 f3, .int .i64 f4, .int .i64 f5], .int .i64 zz, .int .i64 now] from by simp [e1, e2, e3, e4]]
    have hS' := hS.keep (w' := w) fun b o h1 h2 => hG.cell (Nat.lt_of_lt_of_le h2 hhi) (hF b h1 h2)
    refine (sTouch_any sz st A n c es f1 f2 f3 f4 f5 zz now w hS' (Nat.le_trans hhi hG.size) hn hnc hmx).mono ?_
    rintro e w' ⟨sz', st', A', m', c', es', ok, rfl, h1, h2, h3, own, hb⟩
    exact ⟨_, rfl, ⟨(hr.below hb hr.lt).more (by omega), hb.cell (p := ⟨g, 0, none⟩) hr.lt⟩, grown_of_below hb, _, ok, rfl, sz', st', A', m', c', es', rfl, by omega, h2, h3, own_base own (Nat.le_trans hWB hG.size)⟩
theorem t_min (C : Ctx Try.prog g P0 B N F E TS X) (hXi : ∀ w, X i w) {n : Int} {ts : Array TypeId} (hx : OT TS x tZ) (hd : TS d = tZ) :
    TStep Try.prog Q TS X (Gd W g P0 F E) N i ⟨some d, .call { callee := .builtin .min, args := #[.const (.int .i64 n), x], argTypes := ts }, ty, pos, af, none⟩ :=
  step_same C.gB C.e C.st C.x hXi fun b w p hG ho => by
    obtain ⟨z, e⟩ := hx _ b w (by simp [Op.operands, Call.operands]) ho
    refine ⟨.int .i64 (if z < n then z else n), ?_, fun d' hd' => by cases hd'; rw [hd]; exact ⟨_, rfl⟩⟩
    unfold execOp
    simp only [resolve, invoke, builtin, Sem.run_bind, Sem.run_pure, Result.andThen_ok, List.map_toArray, List.map_cons, List.map_nil, e]
    simp only [Act.eval]
    rw [run_min_int2]
    rfl
theorem t_max (C : Ctx Try.prog g P0 B N F E TS X) (hXi : ∀ w, X i w) {n : Int} {ts : Array TypeId} (hx : OT TS x tZ) (hd : TS d = tZ) :
    TStep Try.prog Q TS X (Gd W g P0 F E) N i ⟨some d, .call { callee := .builtin .max, args := #[.const (.int .i64 n), x], argTypes := ts }, ty, pos, af, none⟩ :=
  step_same C.gB C.e C.st C.x hXi fun b w p hG ho => by
    obtain ⟨z, e⟩ := hx _ b w (by simp [Op.operands, Call.operands]) ho
    refine ⟨.int .i64 (if n < z then z else n), ?_, fun d' hd' => by cases hd'; rw [hd]; exact ⟨_, rfl⟩⟩
    unfold execOp
    simp only [resolve, invoke, builtin, Sem.run_bind, Sem.run_pure, Result.andThen_ok, List.map_toArray, List.map_cons, List.map_nil, e]
    simp only [Act.eval]
    rw [run_max_int2]
    rfl
theorem t_ext0 (C : Ctx Try.prog g P0 B N F E TS X) (hXi : ∀ w, X i w) {M : Nat} (hx : OT TS x (tTabT B M)) (hd : TS d = tTab B M) : TStep Try.prog Q TS X (Gd W g P0 F E) N i ⟨some d, .extract x 0, ty, pos, af, none⟩ :=
  step_same C.gB C.e C.st C.x hXi fun b w p hG ho => by
    obtain ⟨cs, ok, e, h⟩ := hx _ b w (by simp [Op.operands]) ho
    refine ⟨.agg cs, ?_, fun d' hd' => by cases hd'; rw [hd]; exact ⟨cs, rfl, h⟩⟩
    unfold execOp
    simp [e, Instr.extract]
theorem t_ext1 (C : Ctx Try.prog g P0 B N F E TS X) (hXi : ∀ w, X i w) {M : Nat} (hx : OT TS x (tTabT B M)) (hd : TS d = tBool) : TStep Try.prog Q TS X (Gd W g P0 F E) N i ⟨some d, .extract x 1, ty, pos, af, none⟩ :=
  step_same C.gB C.e C.st C.x hXi fun b w p hG ho => by
    obtain ⟨cs, ok, e, h⟩ := hx _ b w (by simp [Op.operands]) ho
    refine ⟨.bool ok, ?_, fun d' hd' => by cases hd'; rw [hd]; exact ⟨ok, rfl⟩⟩
    unfold execOp
    simp [e, Instr.extract]
set_option maxRecDepth 100000 in
theorem t_newtab (C : Ctx Try.prog g P0 B N F E TS X) (hXi : ∀ w, X i w) {M : Nat} {ie : TypeInfo} (hie : Try.prog.info? 34 = some ie) (hz : ie.zero = some (.agg #[.int .i64 0, .int .i64 0, .slice none 0 0])) (hWB : B ≤ W.heap.size) (hd : TS d = tTabB B M) :
    TStep Try.prog Q TS X (Gd W g P0 F E) N i ⟨some d, .alloc 34, ty, pos, af, none⟩ :=
  step_run C.gB C.e C.st C.x hXi fun b w p hG ho => by
    refine ⟨.pointer (some ⟨w.heap.size, 0, none⟩), w.alloc (.cells #[.int .i64 0, .int .i64 0, .slice none 0 0] 34), ?_, GrF.alloc _ _ _, fun d' hd' => ?_⟩
    · unfold execOp
      simp [Instr.alloc, zeroValue, typeInfo, hie, hz, newVar, newRow, Value.cells]
    · cases hd'
      rw [hd]
      exact ⟨w.heap.size, _, rfl, Nat.le_trans hWB hG.gr.size, Blk.new _ _ _, 0, 0, none, 0, 0, [], rfl, Nat.zero_le _, Nat.le_refl _, by unfold maxLen; omega, World.ownsRow_nil _ _ _ _⟩
set_option maxRecDepth 100000 in
/-- A table is stored into a block of tables, whenever. -/
theorem t_storetab (C : Ctx Try.prog g P0 B N F (fun _ => True) TS X) (hXi : ∀ w, X i w) (hXa : ∀ j w w', X j w → X j w') {M : Nat} (hfirm : ∀ s, Firm B M (TS s)) (hWB : W.heap.size ≤ B) (hx : OT TS x (tTabB B M)) (hy : OT TS y (tTab B M)) :
    TStep Try.prog Q TS X (Gd W g P0 F (fun _ => True)) N i ⟨none, .store 34 x y, ty, pos, af, none⟩ := by
  intro b w p hp hG ho K hK
  obtain ⟨q, cq, e1, hqB, hq, hqt⟩ := hx _ b w (by simp [Op.operands]) ho
  obtain ⟨cs, e2, ht⟩ := hy _ b w (by simp [Op.operands]) ho
  have hcq : cq.size = 3 := by obtain ⟨_, _, _, _, _, _, rfl, _⟩ := hqt; rfl
  have hcs : cs.size = 3 ∧ cs.all (·.oneCell') = true := by obtain ⟨_, _, _, _, _, _, rfl, _⟩ := ht; exact ⟨rfl, by first | rfl | (simp [Value.oneCell']; done) | (simp [Array.all_eq_true]; done) | kernel_rfl⟩
  have hgB := C.gB
  refine wp_store_row 34 x y rfl q cs e1 e2 34 cq hq (by rw [hcs.1]; kernel_rfl) (by omega) hcs.2 ?_
  have hgs : GrF (· = q) w (w.setRow q cs) := GrF.setRow w q cs
  have hbs : Blk (w.setRow q cs) q 34 cs := hq.setRow
  have ht' : TabIs B M cs (w.setRow q cs) := ht.far hgs hq
  refine hK undef _ ⟨?_, ?_, ?_, trivial⟩ (fun s u hu => hfirm s u w _ q cq cs hgs hqB hq hbs ht' hu) (fun j hj hx => hXa j _ _ hx) (fun d hd => by cases hd) (hXi _)
  · exact (hG.1.grown hgs.to_grown (fun k hk => by cases hk; omega)).more (by omega)
  · exact ⟨hgs.os.trans hG.2.1.os, hgs.tape.trans hG.2.1.tape, hgs.output.trans hG.2.1.output, Nat.le_trans hG.2.1.size hgs.size, fun k hk hn => (hgs.block k (Nat.lt_of_lt_of_le hk hG.2.1.size) (by omega)).trans (hG.2.1.block k hk hn)⟩
  · exact (cell_setRow_other w q cs ⟨g, 0, none⟩ (by show g ≠ q; omega)).trans hG.2.2.1
set_option maxRecDepth 100000 in
/-- An entry put together, and a slice of it alone. -/
theorem t_ent (C : Ctx Try.prog g P0 B N F E TS X) (hXi : ∀ w, X i w) {now tt : Int} (hx : OT TS x tF5) (hy : OT TS y (tLit (.int .i64 now))) (hd : TS d = tE7) : TStep Try.prog Q TS X (Gd W g P0 F E) N i ⟨some d, .build 56 #[(0, x), (1, .const (.int .i64 tt)), (2, y)], ty, pos, af, none⟩ :=
  step_same C.gB C.e C.st C.x hXi fun b w p hG ho => by
    obtain ⟨a1, a2, a3, a4, a5, e1⟩ := hx _ b w (by simp [Op.operands]) ho
    have e2 : b.eval y = .int .i64 now := hy _ b w (by simp [Op.operands]) ho
    refine ⟨.agg (enC ⟨a1, a2, a3, a4, a5, tt, now⟩).toArray, ?_, fun d' hd' => by cases hd'; rw [hd]; exact ⟨_, rfl⟩⟩
    unfold execOp
    simp only [Sem.run_bind]
    rw [run_build w 56 _ (enC ⟨a1, a2, a3, a4, a5, tt, now⟩).toArray (by simp only [List.map_toArray, List.map_cons, List.map_nil, e1, e2]; exact built_ent a1 a2 a3 a4 a5 tt now)]
    rfl
set_option maxRecDepth 100000 in
theorem t_ent2 (C : Ctx Try.prog g P0 B N F E TS X) (hXi : ∀ w, X i w) {now : Int} (hx : OT TS x tF5) (hy : OT TS y (tLit (.int .i64 now))) (hd : TS d = tE7) : TStep Try.prog Q TS X (Gd W g P0 F E) N i ⟨some d, .build 56 #[(0, x), (2, y)], ty, pos, af, none⟩ :=
  step_same C.gB C.e C.st C.x hXi fun b w p hG ho => by
    obtain ⟨a1, a2, a3, a4, a5, e1⟩ := hx _ b w (by simp [Op.operands]) ho
    have e2 : b.eval y = .int .i64 now := hy _ b w (by simp [Op.operands]) ho
    refine ⟨.agg (enC ⟨a1, a2, a3, a4, a5, 0, now⟩).toArray, ?_, fun d' hd' => by cases hd'; rw [hd]; exact ⟨_, rfl⟩⟩
    unfold execOp
    simp only [Sem.run_bind]
    rw [run_build w 56 _ (enC ⟨a1, a2, a3, a4, a5, 0, now⟩).toArray (by simp only [List.map_toArray, List.map_cons, List.map_nil, e1, e2]; exact built_ent2 a1 a2 a3 a4 a5 now)]
    rfl
set_option maxRecDepth 100000 in
theorem t_entrow (C : Ctx Try.prog g P0 B N F E TS X) (hXi : ∀ w, X i w) {ie : TypeInfo} (hie : Try.prog.info? 56 = some ie) (hs : ie.size = 7) (hz : ie.zero = some (.agg #[.int .i64 0, .int .i64 0, .int .i64 0, .int .i64 0, .int .i64 0, .int .i64 0, .int .i64 0])) (hx : OT TS x tE7) (hWB : B ≤ W.heap.size) (hd : TS d = tE7row B) :
    TStep Try.prog Q TS X (Gd W g P0 F E) N i ⟨some d, .buildSlice 32 1 #[(0, x)], ty, pos, af, none⟩ :=
  step_run C.gB C.e C.st C.x hXi fun b w p hG ho => by
    obtain ⟨e, ez⟩ := hx _ b w (by simp [Op.operands]) ho
    refine ⟨.slice (some ⟨w.heap.size, 0, none⟩) 1 1, w.alloc (.cells (enC e).toArray 56), ?_, GrF.alloc _ _ _, fun d' hd' => ?_⟩
    · unfold execOp
      simp only [Sem.run_bind]
      rw [run_buildSlice w 32 56 1 _ (enC e).toArray ie _ Try.underlying32 hie hz (by rw [hs]; omega) (by rw [hs]; omega) ?_]
      · rfl
      · rw [hs]
        simp only [List.map_toArray, List.map_cons, List.map_nil, ez]
        exact fill_ent e
    · cases hd'
      rw [hd]
      exact ⟨w.heap.size, e, rfl, Nat.le_trans hWB hG.gr.size, Blk.new _ _ _⟩
end
end Go.Proofs.Ytgdcfhifiincaaa
