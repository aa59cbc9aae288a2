/-
  The operations of a drawing function, each shown by itself: kinds of values, and one lemma for each kind of operation; no function of the program.
-/
import Derived.Test.YtgdcfhifiincaaaTyped
import Derived.Test.YtgdcfhifiincaaaDraw0
import Derived.Test.YtgdcfhifiincaaaCopy0
import Derived.IntWalk
import Derived.Great.BuildSlice
namespace Go.Proofs.Ytgdcfhifiincaaa
open Go.RowKit
set_option linter.unusedVariables false

/-- w' is w, but for the blocks of F and new ones. -/
structure GrF (F : Nat → Prop) (w w' : World) : Prop where
  os : w'.os = w.os
  tape : w'.tape = w.tape
  output : w'.output = w.output
  size : w.heap.size ≤ w'.heap.size
  block : ∀ k, k < w.heap.size → ¬ F k → w'.heap[k]? = w.heap[k]?
section
variable {F F' : Nat → Prop} {w w1 w' : World}
theorem GrF.refl (F : Nat → Prop) (w : World) : GrF F w w := ⟨rfl, rfl, rfl, Nat.le_refl _, fun _ _ _ => rfl⟩
theorem GrF.mono (h : GrF F w w') (hF : ∀ k, F k → F' k) : GrF F' w w' := ⟨h.os, h.tape, h.output, h.size, fun k hk hn => h.block k hk fun hf => hn (hF k hf)⟩
theorem GrF.trans (h : GrF F w w1) (h1 : GrF F w1 w') : GrF F w w' :=
  ⟨h1.os.trans h.os, h1.tape.trans h.tape, h1.output.trans h.output, Nat.le_trans h.size h1.size, fun k hk hn => (h1.block k (Nat.lt_of_lt_of_le hk h.size) hn).trans (h.block k hk hn)⟩
theorem GrF.of_grown {g : Nat} (h : w.grownBy w' (some g)) : GrF (· = g) w w' := ⟨h.os, h.tape, h.output, h.size, fun k hk hn => h.block k hk (fun e => hn (by cases e; rfl))⟩
theorem GrF.to_grown {g : Nat} (h : GrF (· = g) w w') : w.grownBy w' (some g) := ⟨h.os, h.tape, h.output, h.size, fun k hk hn => h.block k hk (fun e => hn (by rw [e]))⟩
theorem GrF.alloc (F : Nat → Prop) (w : World) (o : Obj) : GrF F w (w.alloc o) := ⟨rfl, rfl, rfl, by simp, fun k hk _ => Below.heap_alloc w o k hk⟩
theorem GrF.drew (h : GrF F w w') : GrF F w w'.drew := ⟨h.os, h.tape, h.output, h.size, h.block⟩
theorem GrF.cell (h : GrF F w w') {b i : Nat} (hb : b < w.heap.size) (hn : ¬ F b) : w'.cell? ⟨b, i, none⟩ = w.cell? ⟨b, i, none⟩ := World.cell?_of_block (a := ⟨b, i, none⟩) (h.block b hb hn)
end

/-! ### Kinds of values -/
abbrev VT := Value → World → Prop
def tLit (v : Value) : VT := fun u _ => u = v
def tInt (k : IntKind) (lo hi : Int) : VT := fun u _ => ∃ z : Int, lo ≤ z ∧ z ≤ hi ∧ u = .int k z
def tBool : VT := fun u _ => ∃ z : Bool, u = .bool z
def tRow (B n : Nat) (T : VT) : VT := fun u w => ∃ b, u = .slice (some ⟨b, 0, none⟩) n n ∧ B ≤ b ∧ b < w.heap.size ∧ ∀ i, i < n → ∃ c, w.cell? ⟨b, i, none⟩ = some c ∧ T c w
def tAt (B : Nat) (T : VT) : VT := fun u w => ∃ b i, u = .pointer (some ⟨b, i, none⟩) ∧ B ≤ b ∧ b < w.heap.size ∧ ∃ c, w.cell? ⟨b, i, none⟩ = some c ∧ T c w
/-- A list of numbers in a slice of its own. -/
def tList (B : Nat) (t : TypeId) (k : IntKind) (lo hi : Int) (most : Nat) : VT := fun u w => ∃ (A : Option Addr) (n c : Nat) (zs : List Int), u = .slice A n c ∧ n ≤ most ∧ n ≤ c ∧ c ≤ maxLen ∧ (∀ z ∈ zs, lo ≤ z ∧ z ≤ hi) ∧ w.ownsRow B t 1 (.slice A n c) n (zs.map (Value.int k))
/-- A new block of n cells of type t. -/
def tNew (B : Nat) (t : TypeId) (n : Nat) : VT := fun u w => ∃ b, u = .pointer (some ⟨b, 0, none⟩) ∧ B ≤ b ∧ ∃ cs : Array Value, cs.size = n ∧ Blk w b t cs

/-- What is said of a value stays where blocks below B change. -/
def Stab (B : Nat) (T : VT) : Prop := ∀ v w w', GrF (· < B) w w' → T v w → T v w'
section
variable {B : Nat}
theorem stab_lit (v : Value) : Stab B (tLit v) := fun _ _ _ _ h => h
theorem stab_int (k : IntKind) (lo hi : Int) : Stab B (tInt k lo hi) := fun _ _ _ _ h => h
theorem stab_bool : Stab B tBool := fun _ _ _ _ h => h
theorem stab_row {n : Nat} {T : VT} (hT : Stab B T) : Stab B (tRow B n T) := by
  rintro v w w' hg ⟨b, rfl, hB, hb, hc⟩
  refine ⟨b, rfl, hB, Nat.lt_of_lt_of_le hb hg.size, fun i hi => ?_⟩
  obtain ⟨c, h1, h2⟩ := hc i hi
  exact ⟨c, by rw [hg.cell hb (by omega)]; exact h1, hT _ _ _ hg h2⟩
theorem stab_at {T : VT} (hT : Stab B T) : Stab B (tAt B T) := by
  rintro v w w' hg ⟨b, i, rfl, hB, hb, c, h1, h2⟩
  exact ⟨b, i, rfl, hB, Nat.lt_of_lt_of_le hb hg.size, c, by rw [hg.cell hb (by omega)]; exact h1, hT _ _ _ hg h2⟩
theorem stab_list {t : TypeId} {k : IntKind} {lo hi : Int} {most : Nat} : Stab B (tList B t k lo hi most) := by
  rintro v w w' hg ⟨A, n, c, zs, rfl, h1, h2, h3, h4, own⟩
  refine ⟨A, n, c, zs, rfl, h1, h2, h3, h4, own.1, ?_⟩
  rcases own.2 with h | ⟨g, cap, cur, e1, e2, e3, e4⟩
  · exact .inl h
  · exact .inr ⟨g, cap, cur, e1, e2, (hg.block g (Array.getElem?_eq_some_iff.1 e3).1 (by omega)).trans e3, e4⟩
theorem stab_new {t : TypeId} {n : Nat} : Stab B (tNew B t n) := by
  rintro v w w' hg ⟨b, rfl, hB, cs, hn, hb⟩
  exact ⟨b, rfl, hB, cs, hn, (hg.block b hb.lt (by omega)).trans hb⟩
end
theorem tInt.more {k : IntKind} {lo hi lo' hi' : Int} {v : Value} {w : World} (h : tInt k lo hi v w) (h1 : lo' ≤ lo) (h2 : hi ≤ hi') : tInt k lo' hi' v w := by
  obtain ⟨z, a, b, c⟩ := h
  exact ⟨z, by omega, by omega, c⟩

/-! ### What is known of the slots -/
def tsOf (old : List (Nat × Value)) (new : List (Nat × VT)) : Nat → Value → World → Prop := fun s =>
  match old.lookup s with
  | some v => tLit v
  | none => match new.lookup s with
    | some T => T
    | none => fun _ _ => True
def StabL (B : Nat) : List (Nat × VT) → Prop
  | [] => True
  | (_, T) :: r => Stab B T ∧ StabL B r
theorem StabL.at_ {B : Nat} : ∀ (l : List (Nat × VT)) (s : Nat) (T : VT), StabL B l → l.lookup s = some T → Stab B T
  | [], _, _, _, h => by simp at h
  | (k, U) :: r, s, T, h, hl => by
    rw [List.lookup_cons] at hl
    split at hl
    · cases hl; exact h.1
    · exact StabL.at_ r s T h.2 hl
theorem stab_ts {B : Nat} {old : List (Nat × Value)} {new : List (Nat × VT)} (h : StabL B new) (s : Nat) : Stab B (tsOf old new s) := by
  unfold tsOf
  cases ho : old.lookup s with
  | some v => exact stab_lit _
  | none =>
    cases hn : new.lookup s with
    | none => exact fun _ _ _ _ h => h
    | some T => exact h.at_ _ _ _ hn
/-- The slots that no operation writes hold what they held. -/
theorem ts_old {old : List (Nat × Value)} {new : List (Nat × VT)} {ops : Array Oper} {m0 m : Nat} {a : Act} {w : World} (hold : ∀ x ∈ old, a.tmps.getD x.1 undef = x.2)
    (hnew : new.all (fun x => (List.range' m0 (m - m0)).any (fun i => dstAt ops i == some x.1)) = true) : ∀ t, (∀ i, m0 ≤ i → i < m → dstAt ops i ≠ some t) → tsOf old new t (a.tmps.getD t undef) w := by
  intro t ht
  have look : ∀ {β : Type _} (l : List (Nat × β)) (v : β), l.lookup t = some v → (t, v) ∈ l := by
    intro β l v
    induction l with
    | nil => intro h; simp at h
    | cons x r ih =>
      obtain ⟨k, u⟩ := x
      intro h
      rw [List.lookup_cons] at h
      split at h
      · rename_i e; simp at e; cases h; subst e; simp
      · exact List.mem_cons_of_mem _ (ih h)
  unfold tsOf
  cases ho : old.lookup t with
  | some v => exact hold _ (look old v ho)
  | none =>
    cases hn : new.lookup t with
    | none => trivial
    | some T =>
      exfalso
      have := List.all_eq_true.1 hnew _ (look new T hn)
      obtain ⟨i, hi, e⟩ := List.any_eq_true.1 this
      have := List.mem_range'_1.1 hi
      exact ht i this.1 (by omega) (by simpa using e)

/-! ### The state of a drawing region, and its steps -/
/-- The reader and memory behind p operations: what is in F may have changed. -/
def Gd (W : World) (g P0 : Nat) (F : Nat → Prop) (E : World → Prop) (p : Nat) (w : World) : Prop := Rd w g (P0 + 100 * p) ∧ GrF F W w ∧ w.cell? ⟨g, 0, none⟩ = W.cell? ⟨g, 0, none⟩ ∧ E w
theorem Gd.more {W : World} {g P0 : Nat} {F : Nat → Prop} {E : World → Prop} (p p' : Nat) (w : World) (h : p ≤ p') (hg : Gd W g P0 F E p w) : Gd W g P0 F E p' w := ⟨hg.1.more (by omega), hg.2⟩
theorem Gd.gr {W w : World} {g P0 p : Nat} {F : Nat → Prop} {E : World → Prop} (h : Gd W g P0 F E p w) : GrF F W w := h.2.1
theorem Gd.rdc {W w : World} {g P0 p : Nat} {F : Nat → Prop} {E : World → Prop} (h : Gd W g P0 F E p w) : RdC W w g (P0 + 100 * p) := ⟨h.1, h.2.2.1⟩

/-- What a draw may change. -/
def GrC (g : Nat) (w w' : World) : Prop := GrF (· = g) w w' ∧ w'.cell? ⟨g, 0, none⟩ = w.cell? ⟨g, 0, none⟩
/-- The operands of an operation are what is known of them. -/
def Opd (TS : Nat → Value → World → Prop) (o : Oper) (b : Act) (w : World) : Prop := ∀ t, Operand.tmp t ∈ o.op.operands.toList → TS t (b.tmps.getD t undef) w

section
variable {P : Program} {Q : Exit → Act → World → Prop} {TS : Nat → Value → World → Prop} {X : Nat → World → Prop} {W : World} {g P0 B N : Nat} {F : Nat → Prop} {E : World → Prop}
theorem step_run {i : Nat} {o : Oper} (hgB : g < B) (hE : ∀ w w', GrC g w w' → E w → E w') (hst : ∀ s, Stab B (TS s)) (hX : ∀ j w w', GrC g w w' → X j w → X j w') (hXi : ∀ w, X i w)
    (h : ∀ b w p, Gd W g P0 F E p w → Opd TS o b w → ∃ v w', (execOp b.eval o).run P w = .ok (.value v) w' ∧ GrF (fun _ => False) w w' ∧ ∀ d, o.dst = some d → TS d v w') :
    TStep P Q TS X (Gd W g P0 F E) N i o := by
  intro b w p hp hG hops K hK
  obtain ⟨v, w', hr, hg, hd⟩ := h b w p hG hops
  have hc : GrC g w w' := ⟨hg.mono fun _ hf => hf.elim, hg.cell hG.1.lt (fun hf => hf)⟩
  unfold Oper.wp
  rw [hr]
  refine hK v w' ⟨?_, hG.2.1.trans (hg.mono fun _ hf => hf.elim), hc.2.trans hG.2.2.1, hE w w' hc hG.2.2.2⟩ (fun s u hu => hst s u w w' (hg.mono fun _ hf => hf.elim) hu) (fun j _ hx => hX j w w' hc hx) hd (hXi w')
  exact (hG.1.grown (row := none) ⟨hg.os, hg.tape, hg.output, hg.size, fun k hk _ => hg.block k hk (fun hf => hf)⟩ (fun k hk => by cases hk)).more (by omega)
theorem step_same {i : Nat} {o : Oper} (hgB : g < B) (hE : ∀ w w', GrC g w w' → E w → E w') (hst : ∀ s, Stab B (TS s)) (hX : ∀ j w w', GrC g w w' → X j w → X j w') (hXi : ∀ w, X i w)
    (h : ∀ b w p, Gd W g P0 F E p w → Opd TS o b w → ∃ v, (execOp b.eval o).run P w = .ok (.value v) w ∧ ∀ d, o.dst = some d → TS d v w) :
    TStep P Q TS X (Gd W g P0 F E) N i o :=
  step_run hgB hE hst hX hXi fun b w p hG ho => by
    obtain ⟨v, hr, hd⟩ := h b w p hG ho
    exact ⟨v, w, hr, GrF.refl _ _, hd⟩
theorem step_call {i : Nat} {o : Oper} (hgB : g < B) (hgF : F g) (hP0 : P0 + 100 * N ≤ 100000000) (hE : ∀ w w', GrC g w w' → E w → E w') (hst : ∀ s, Stab B (TS s)) (hX : ∀ j w w', GrC g w w' → X j w → X j w') (hXi : ∀ w, X i w)
    (h : ∀ b w p, Gd W g P0 F E p w → Opd TS o b w → ∃ f args, (execOp b.eval o).run P w = .ok (.enter f args) w ∧
      ∀ q, q ≤ 100000000 → Rd w g q → Calls P f args w fun e w' => ∃ v, e = .returned v ∧ RdC w w' g (q + 100) ∧ w.grownBy w' (some g) ∧ ∀ d, o.dst = some d → TS d v w') :
    TStep P Q TS X (Gd W g P0 F E) N i o := by
  intro b w p hp hG hops K hK
  obtain ⟨f, args, hr, hc⟩ := h b w p hG hops
  unfold Oper.wp
  rw [hr, Oper.upon_enter]
  refine (hc _ (by omega) hG.1).mono ?_
  rintro e w' ⟨v, rfl, hrd, hg, hd⟩
  have hg' := GrF.of_grown hg
  exact hK v w' ⟨hrd.1.more (by omega), hG.2.1.trans (hg'.mono fun k hk => by rw [hk]; exact hgF), hrd.2.trans hG.2.2.1, hE w w' ⟨hg', hrd.2⟩ hG.2.2.2⟩ (fun s u hu => hst s u w w' (hg'.mono fun k hk => by omega) hu) (fun j _ hx => hX j w w' ⟨hg', hrd.2⟩ hx) hd (hXi w')
end

/-! ### The run of each kind of operation -/
section
variable {P : Program} (w : World) (b : Act) (d : Option Tmp) (x y : Operand) (t t2 t3 : TypeId) (pos : String) (af : Array Edge) (gd : Option (Nat × Bool))
theorem run_add {m n : Int} (hx : b.eval x = .int .i64 m) (hy : b.eval y = .int .i64 n) (h : -9223372036854775808 ≤ m + n ∧ m + n ≤ 9223372036854775807) : (execOp b.eval ⟨d, .binOp .add t x y t2, t3, pos, af, gd⟩).run P w = .ok (.value (.int .i64 (m + n))) w := by
  unfold execOp
  simp only [hx, hy]
  show Result.ok (Next.value (.int .i64 (IntKind.i64.wrap (m + n)))) w = _
  rw [IntWalk.i64_in _ h]
theorem run_sub {m n : Int} (hx : b.eval x = .int .i64 m) (hy : b.eval y = .int .i64 n) (h : -9223372036854775808 ≤ m - n ∧ m - n ≤ 9223372036854775807) : (execOp b.eval ⟨d, .binOp .sub t x y t2, t3, pos, af, gd⟩).run P w = .ok (.value (.int .i64 (m - n))) w := by
  unfold execOp
  simp only [hx, hy]
  show Result.ok (Next.value (.int .i64 (IntKind.i64.wrap (m - n)))) w = _
  rw [IntWalk.i64_in _ h]
theorem run_mul {m n : Int} (hx : b.eval x = .int .i64 m) (hy : b.eval y = .int .i64 n) (h : -9223372036854775808 ≤ m * n ∧ m * n ≤ 9223372036854775807) : (execOp b.eval ⟨d, .binOp .mul t x y t2, t3, pos, af, gd⟩).run P w = .ok (.value (.int .i64 (m * n))) w := by
  unfold execOp
  simp only [hx, hy]
  show Result.ok (Next.value (.int .i64 (IntKind.i64.wrap (m * n)))) w = _
  rw [IntWalk.i64_in _ h]
theorem run_quo {m n : Int} (hx : b.eval x = .int .i64 m) (hy : b.eval y = .int .i64 n) (h0 : 0 ≤ m ∧ m ≤ 9223372036854775807) (h1 : 1 ≤ n) : (execOp b.eval ⟨d, .binOp .quo t x y t2, t3, pos, af, gd⟩).run P w = .ok (.value (.int .i64 (m / n))) w := by
  have hn : n ≠ 0 := by omega
  have h2 : 0 ≤ m / n ∧ m / n ≤ m := ⟨Int.ediv_nonneg h0.1 (by omega), Int.ediv_le_self _ h0.1⟩
  unfold execOp
  simp only [hx, hy]
  simp [go_sem, hn]
  rw [Int.tdiv_eq_ediv_of_nonneg h0.1, IntWalk.i64_in _ (by omega)]
theorem run_eql {m n : Int} (hx : b.eval x = .int .i64 m) (hy : b.eval y = .int .i64 n) : ∃ z : Bool, (execOp b.eval ⟨d, .binOp .eql t x y t2, t3, pos, af, gd⟩).run P w = .ok (.value (.bool z)) w := by
  refine ⟨m == n, ?_⟩
  unfold execOp
  simp only [hx, hy]
  simp [go_sem]
theorem run_gtr {m n : Int} (hx : b.eval x = .int .i64 m) (hy : b.eval y = .int .i64 n) : ∃ z : Bool, (execOp b.eval ⟨d, .binOp .gtr t x y t2, t3, pos, af, gd⟩).run P w = .ok (.value (.bool z)) w := by
  refine ⟨decide (m > n), ?_⟩
  unfold execOp
  simp only [hx, hy]
  simp [go_sem]
theorem run_callf {f : FuncId} {xs : Array Operand} {ts : Array TypeId} {fn : Func} (hf : P.funcs[f]? = some fn) (hb : fn.body.isNone = false) (hn : (fn.name == "runtime.NumGoroutine") = false) :
    (execOp b.eval ⟨d, .call { callee := .value (.func f), args := xs, argTypes := ts }, t3, pos, af, gd⟩).run P w = .ok (.enter f (xs.map b.eval)) w := by
  unfold execOp
  simp only [resolve, Deferred.ofValue, Act.eval, Sem.run_bind, Sem.run_pure, Result.andThen_ok, invoke, callFunc]
  have : Sem.run P program w = .ok P w := rfl
  simp only [this, Result.andThen_ok, hf, hn, hb, Sem.run_pure, Bool.false_eq_true, if_false]
  simp
theorem run_index1 {e : TypeId} {i : TypeInfo} (ht : P.underlying t = some (.slice e)) (hi : P.info? e = some i) (hs : i.size = 1) {g n c : Nat} {z : Int} (hz0 : 0 ≤ z) (hz1 : z < n) (hx : b.eval x = .slice (some ⟨g, 0, none⟩) n c) (hy : b.eval y = .int .i64 z) :
    (execOp b.eval ⟨d, .indexAddr t x y, t3, pos, af, gd⟩).run P w = .ok (.value (.pointer (some ⟨g, z.toNat, none⟩))) w := by
  unfold execOp
  simp only [hx, hy]
  simp [Instr.indexAt, asIntOf, run_underlying ht, sizeOf, typeInfo, hi, hs, hz0, hz1, Addr.add]
  intro h
  omega
end

/-! ### Typed operands and typed steps -/
/-- What is the same for all steps of a region. -/
structure Ctx (P : Program) (g P0 B N : Nat) (F : Nat → Prop) (E : World → Prop) (TS : Nat → Value → World → Prop) (X : Nat → World → Prop) : Prop where
  gB : g < B
  gF : F g
  room : P0 + 100 * N ≤ 100000000
  st : ∀ s, Stab B (TS s)
  x : ∀ j w w', GrC g w w' → X j w → X j w'
  e : ∀ w w', GrC g w w' → E w → E w'
/-- An operand that is always of this kind. -/
def OT (TS : Nat → Value → World → Prop) (x : Operand) (T : VT) : Prop := ∀ (o : Oper) (b : Act) (w : World), x ∈ o.op.operands.toList → Opd TS o b w → T (b.eval x) w
theorem ot_tmp {TS : Nat → Value → World → Prop} {t : Nat} {T : VT} (h : TS t = T) : OT TS (.tmp t) T := fun o b w hm ho => by rw [← h]; exact ho t hm
theorem ot_const {TS : Nat → Value → World → Prop} {k : IntKind} {z lo hi : Int} (h1 : lo ≤ z) (h2 : z ≤ hi) : OT TS (.const (.int k z)) (tInt k lo hi) := fun o b w hm ho => ⟨z, h1, h2, rfl⟩
theorem ot_lit {TS : Nat → Value → World → Prop} {v : Value} : OT TS (.const v) (tLit v) := fun o b w hm ho => rfl
theorem OT.more {TS : Nat → Value → World → Prop} {x : Operand} {k : IntKind} {lo hi lo' hi' : Int} (h : OT TS x (tInt k lo hi)) (h1 : lo' ≤ lo) (h2 : hi ≤ hi') : OT TS x (tInt k lo' hi') := fun o b w hm ho => (h o b w hm ho).more h1 h2
def OTs (TS : Nat → Value → World → Prop) (T : VT) : List Operand → Prop
  | [] => True
  | x :: r => OT TS x T ∧ OTs TS T r
theorem OTs.at_ {TS : Nat → Value → World → Prop} {T : VT} : ∀ (l : List Operand) (x : Operand), OTs TS T l → x ∈ l → OT TS x T
  | [], _, _, h => by cases h
  | y :: r, x, h, hx => by
    rcases List.mem_cons.1 hx with rfl | hx
    · exact h.1
    · exact OTs.at_ r x h.2 hx

section
variable {P : Program} {Q : Exit → Act → World → Prop} {TS : Nat → Value → World → Prop} {X : Nat → World → Prop} {W : World} {g P0 B N : Nat} {F : Nat → Prop} {E : World → Prop} (C : Ctx P g P0 B N F E TS X) {i : Nat} (hXi : ∀ w, X i w) {d : Nat} {ty t t2 : TypeId} {pos : String} {af : Array Edge} {x y : Operand}
include C hXi

theorem t_move {T : VT} (hx : OT TS x T) (hd : TS d = T) : TStep P Q TS X (Gd W g P0 F E) N i ⟨some d, .move x, ty, pos, af, none⟩ :=
  step_same C.gB C.e C.st C.x hXi fun b w p hG ho => ⟨b.eval x, rfl, fun d' hd' => by cases hd'; rw [hd]; exact hx _ b w (by simp [Op.operands]) ho⟩
theorem t_assign {T : VT} (hx : OT TS x T) (hd : TS d = T) : TStep P Q TS X (Gd W g P0 F E) N i ⟨some d, .assign x, ty, pos, af, none⟩ :=
  step_same C.gB C.e C.st C.x hXi fun b w p hG ho => ⟨b.eval x, rfl, fun d' hd' => by cases hd'; rw [hd]; exact hx _ b w (by simp [Op.operands]) ho⟩
theorem t_add {l1 h1 l2 h2 lo hi : Int} (hx : OT TS x (tInt .i64 l1 h1)) (hy : OT TS y (tInt .i64 l2 h2)) (hlo : lo ≤ l1 + l2) (hhi : h1 + h2 ≤ hi) (hl : -9223372036854775808 ≤ lo) (hh : hi ≤ 9223372036854775807) (hd : TS d = tInt .i64 lo hi) :
    TStep P Q TS X (Gd W g P0 F E) N i ⟨some d, .binOp .add t x y t2, ty, pos, af, none⟩ :=
  step_same C.gB C.e C.st C.x hXi fun b w p hG ho => by
    obtain ⟨m, m1, m2, em⟩ := hx _ b w (by simp [Op.operands]) ho
    obtain ⟨n, n1, n2, en⟩ := hy _ b w (by simp [Op.operands]) ho
    exact ⟨_, run_add w b _ x y _ _ _ _ _ _ em en (by omega), fun d' hd' => by cases hd'; rw [hd]; exact ⟨m + n, by omega, by omega, rfl⟩⟩
theorem t_sub {l1 h1 l2 h2 lo hi : Int} (hx : OT TS x (tInt .i64 l1 h1)) (hy : OT TS y (tInt .i64 l2 h2)) (hlo : lo ≤ l1 - h2) (hhi : h1 - l2 ≤ hi) (hl : -9223372036854775808 ≤ lo) (hh : hi ≤ 9223372036854775807) (hd : TS d = tInt .i64 lo hi) :
    TStep P Q TS X (Gd W g P0 F E) N i ⟨some d, .binOp .sub t x y t2, ty, pos, af, none⟩ :=
  step_same C.gB C.e C.st C.x hXi fun b w p hG ho => by
    obtain ⟨m, m1, m2, em⟩ := hx _ b w (by simp [Op.operands]) ho
    obtain ⟨n, n1, n2, en⟩ := hy _ b w (by simp [Op.operands]) ho
    exact ⟨_, run_sub w b _ x y _ _ _ _ _ _ em en (by omega), fun d' hd' => by cases hd'; rw [hd]; exact ⟨m - n, by omega, by omega, rfl⟩⟩
/-- A product with a numeral. -/
theorem t_mulc {l1 h1 n lo hi : Int} (hx : OT TS x (tInt .i64 l1 h1)) (hn : 0 ≤ n) (hlo : lo ≤ l1 * n) (hhi : h1 * n ≤ hi) (hl : -9223372036854775808 ≤ lo) (hh : hi ≤ 9223372036854775807) (hd : TS d = tInt .i64 lo hi) :
    TStep P Q TS X (Gd W g P0 F E) N i ⟨some d, .binOp .mul t x (.const (.int .i64 n)) t2, ty, pos, af, none⟩ :=
  step_same C.gB C.e C.st C.x hXi fun b w p hG ho => by
    obtain ⟨m, m1, m2, em⟩ := hx _ b w (by simp [Op.operands]) ho
    have e1 : l1 * n ≤ m * n := Int.mul_le_mul_of_nonneg_right m1 hn
    have e2 : m * n ≤ h1 * n := Int.mul_le_mul_of_nonneg_right m2 hn
    exact ⟨_, run_mul w b _ x (.const (.int .i64 n)) _ _ _ _ _ _ em rfl (by omega), fun d' hd' => by cases hd'; rw [hd]; exact ⟨m * n, by omega, by omega, rfl⟩⟩
/-- A quotient by a numeral. -/
theorem t_quoc {l1 h1 n lo hi : Int} (hx : OT TS x (tInt .i64 l1 h1)) (h0 : 0 ≤ l1) (hb : h1 ≤ 9223372036854775807) (hn : 1 ≤ n) (hlo : lo ≤ l1 / n) (hhi : h1 / n ≤ hi) (hd : TS d = tInt .i64 lo hi) :
    TStep P Q TS X (Gd W g P0 F E) N i ⟨some d, .binOp .quo t x (.const (.int .i64 n)) t2, ty, pos, af, none⟩ :=
  step_same C.gB C.e C.st C.x hXi fun b w p hG ho => by
    obtain ⟨m, m1, m2, em⟩ := hx _ b w (by simp [Op.operands]) ho
    have e1 : l1 / n ≤ m / n := Int.ediv_le_ediv (by omega) m1
    have e2 : m / n ≤ h1 / n := Int.ediv_le_ediv (by omega) m2
    exact ⟨_, run_quo w b _ x (.const (.int .i64 n)) _ _ _ _ _ _ em rfl (by omega) hn, fun d' hd' => by cases hd'; rw [hd]; exact ⟨m / n, by omega, by omega, rfl⟩⟩
theorem t_eql {l1 h1 l2 h2 : Int} (hx : OT TS x (tInt .i64 l1 h1)) (hy : OT TS y (tInt .i64 l2 h2)) (hd : TS d = tBool) :
    TStep P Q TS X (Gd W g P0 F E) N i ⟨some d, .binOp .eql t x y t2, ty, pos, af, none⟩ :=
  step_same C.gB C.e C.st C.x hXi fun b w p hG ho => by
    obtain ⟨m, m1, m2, em⟩ := hx _ b w (by simp [Op.operands]) ho
    obtain ⟨n, n1, n2, en⟩ := hy _ b w (by simp [Op.operands]) ho
    obtain ⟨z, hz⟩ := run_eql (P := P) w b (some d) x y t t2 ty pos af none em en
    exact ⟨_, hz, fun d' hd' => by cases hd'; rw [hd]; exact ⟨z, rfl⟩⟩
theorem t_gtr {l1 h1 l2 h2 : Int} (hx : OT TS x (tInt .i64 l1 h1)) (hy : OT TS y (tInt .i64 l2 h2)) (hd : TS d = tBool) :
    TStep P Q TS X (Gd W g P0 F E) N i ⟨some d, .binOp .gtr t x y t2, ty, pos, af, none⟩ :=
  step_same C.gB C.e C.st C.x hXi fun b w p hG ho => by
    obtain ⟨m, m1, m2, em⟩ := hx _ b w (by simp [Op.operands]) ho
    obtain ⟨n, n1, n2, en⟩ := hy _ b w (by simp [Op.operands]) ho
    obtain ⟨z, hz⟩ := run_gtr (P := P) w b (some d) x y t t2 ty pos af none em en
    exact ⟨_, hz, fun d' hd' => by cases hd'; rw [hd]; exact ⟨z, rfl⟩⟩
/-- The address of a cell of a row. -/
theorem t_index {n : Nat} {lo hi : Int} {T : VT} {e : TypeId} {ie : TypeInfo} (ht : P.underlying t = some (.slice e)) (hie : P.info? e = some ie) (hs : ie.size = 1) (hx : OT TS x (tRow B n T)) (hy : OT TS y (tInt .i64 lo hi)) (h0 : 0 ≤ lo) (h1 : hi < n) (hd : TS d = tAt B T) :
    TStep P Q TS X (Gd W g P0 F E) N i ⟨some d, .indexAddr t x y, ty, pos, af, none⟩ :=
  step_same C.gB C.e C.st C.x hXi fun b w p hG ho => by
    obtain ⟨k, ek, hB, hk, hc⟩ := hx _ b w (by simp [Op.operands]) ho
    obtain ⟨z, z1, z2, ez⟩ := hy _ b w (by simp [Op.operands]) ho
    refine ⟨_, run_index1 w b _ x y _ _ _ _ _ ht hie hs (by omega) (by omega) ek ez, fun d' hd' => ?_⟩
    cases hd'
    rw [hd]
    obtain ⟨c, c1, c2⟩ := hc z.toNat (by omega)
    exact ⟨k, z.toNat, rfl, hB, hk, c, c1, c2⟩
theorem t_load {T : VT} {dd : TypeDesc} (ht : P.underlying t = some dd) (hda : (match dd with | .struct _ | .array _ _ => true | _ => false) = false) (hx : OT TS x (tAt B T)) (hd : TS d = T) :
    TStep P Q TS X (Gd W g P0 F E) N i ⟨some d, .load t x, ty, pos, af, none⟩ :=
  step_same C.gB C.e C.st C.x hXi fun b w p hG ho => by
    obtain ⟨k, j, ek, hB, hk, c, c1, c2⟩ := hx _ b w (by simp [Op.operands]) ho
    refine ⟨c, ?_, fun d' hd' => by cases hd'; rw [hd]; exact c2⟩
    unfold execOp
    simp only [ek]
    have hag : (isAgg t).run P w = .ok false w := by
      simp only [isAgg, Sem.run_bind, run_underlying ht, Result.andThen_ok]
      cases dd <;> first | rfl | cases hda
    simp [Instr.loadAt, Instr.sureAddr, loadVar, hag, c1]
omit C hXi in
theorem cells_one {v : Value} (h : v.oneCell' = true) : v.cells = #[v] := by cases v <;> first | rfl | cases h
/-- A literal of numbers. -/
theorem t_row {n : Nat} {T : VT} {e : TypeId} {ie : TypeInfo} {z : Value} {parts : Array (Nat × Operand)} (xs : List Operand) (ht : P.underlying t = some (.slice e)) (hie : P.info? e = some ie) (hs : ie.size = 1) (hz : ie.zero = some z)
    (hp : parts.toList = (xs.zipIdx 0).map fun x => (x.2, x.1)) (hn : xs.length = n) (hn0 : 0 < n) (hn1 : n ≤ 1000) (hT1 : ∀ v w, T v w → v.oneCell' = true) (hTs : Stab B T) (hx : OTs TS T xs) (hWB : B ≤ W.heap.size) (hd : TS d = tRow B n T) :
    TStep P Q TS X (Gd W g P0 F E) N i ⟨some d, .buildSlice t n parts, ty, pos, af, none⟩ :=
  step_run C.gB C.e C.st C.x hXi fun b w p hG ho => by
    have hmem : ∀ x ∈ xs, x ∈ (Op.buildSlice t n parts).operands.toList := by
      intro x hxx
      simp only [Op.operands, hp]
      simp
      obtain ⟨k, hk, rfl⟩ := List.getElem_of_mem hxx
      exact ⟨k, List.mem_zipIdx_iff_getElem?.2 (List.getElem?_eq_getElem hk)⟩
    have hT : ∀ x ∈ xs, T (b.eval x) w := fun x hxx => (hx.at_ _ _ hxx) _ b w (hmem x hxx) ho
    have hpe : (parts.map fun (i, x) => (i, b.eval x)).toList = ((xs.map b.eval).zipIdx 0).map fun x => (x.2, x.1) := by
      rw [Array.toList_map, hp, List.zipIdx_map, List.map_map, List.map_map]
      rfl
    refine ⟨.slice (some ⟨w.heap.size, 0, none⟩) n n, w.alloc (.cells (xs.map b.eval).toArray e), ?_, GrF.alloc _ _ _, fun d' hd' => ?_⟩
    · unfold execOp
      simp only [Sem.run_bind]
      rw [run_buildSlice w t e n _ (xs.map b.eval).toArray ie z ht hie hz (by rw [hs]; omega) (by rw [hs]; omega) ?_]
      · rfl
      · rw [hpe, hs]
        exact Great.fill_flat _ _ (fun v hv => by obtain ⟨x, hxx, rfl⟩ := List.mem_map.1 hv; exact cells_one (hT1 _ _ (hT x hxx))) (by simp [hn])
    · cases hd'
      rw [hd]
      refine ⟨w.heap.size, rfl, Nat.le_trans hWB hG.gr.size, by simp, fun j hj => ?_⟩
      have hj' : j < xs.length := by omega
      refine ⟨b.eval xs[j], ?_, hTs _ _ _ (GrF.alloc _ _ _) (hT _ (List.getElem_mem hj'))⟩
      rw [(Blk.new w e (xs.map b.eval).toArray).cell]
      simp [List.getElem?_eq_getElem hj']
/-- A literal of numbers, as a list. -/
theorem t_listlit {n most : Nat} {lo hi : Int} {k : IntKind} {e : TypeId} {ie : TypeInfo} {z : Value} {parts : Array (Nat × Operand)} (xs : List Operand) (ht : P.underlying t = some (.slice e)) (hie : P.info? e = some ie) (hs : ie.size = 1) (hz : ie.zero = some z)
    (hp : parts.toList = (xs.zipIdx 0).map fun x => (x.2, x.1)) (hn : xs.length = n) (hn1 : n ≤ 1000) (hnm : n ≤ most) (hx : OTs TS (tInt k lo hi) xs) (hWB : B ≤ W.heap.size) (hd : TS d = tList B e k lo hi most) :
    TStep P Q TS X (Gd W g P0 F E) N i ⟨some d, .buildSlice t n parts, ty, pos, af, none⟩ :=
  step_run C.gB C.e C.st C.x hXi fun b w p hG ho => by
    have hmem : ∀ x ∈ xs, x ∈ (Op.buildSlice t n parts).operands.toList := by
      intro x hxx
      simp only [Op.operands, hp]
      simp
      obtain ⟨k, hk, rfl⟩ := List.getElem_of_mem hxx
      exact ⟨k, List.mem_zipIdx_iff_getElem?.2 (List.getElem?_eq_getElem hk)⟩
    have hT : ∀ x ∈ xs, tInt k lo hi (b.eval x) w := fun x hxx => (hx.at_ _ _ hxx) _ b w (hmem x hxx) ho
    have hpe : (parts.map fun (i, x) => (i, b.eval x)).toList = ((xs.map b.eval).zipIdx 0).map fun x => (x.2, x.1) := by
      rw [Array.toList_map, hp, List.zipIdx_map, List.map_map, List.map_map]
      rfl
    obtain ⟨zs, hzs, hzr⟩ : ∃ zs : List Int, xs.map b.eval = zs.map (Value.int k) ∧ ∀ z ∈ zs, lo ≤ z ∧ z ≤ hi := by
      clear hx hp hn hmem hpe
      induction xs with
      | nil => exact ⟨[], rfl, by simp⟩
      | cons x r ih =>
        obtain ⟨zs, h1, h2⟩ := ih fun y hy => hT y (by simp [hy])
        obtain ⟨z, z1, z2, ez⟩ := hT x (by simp)
        refine ⟨z :: zs, by simp [h1, ez], ?_⟩
        intro y hy
        rcases List.mem_cons.1 hy with rfl | hy
        · exact ⟨z1, z2⟩
        · exact h2 y hy
    have hzl : zs.length = n := by have := congrArg List.length hzs; simp at this; omega
    refine ⟨.slice (some ⟨w.heap.size, 0, none⟩) n n, w.alloc (.cells (zs.map (Value.int k)).toArray e), ?_, GrF.alloc _ _ _, fun d' hd' => ?_⟩
    · unfold execOp
      simp only [Sem.run_bind]
      rcases Nat.eq_zero_or_pos n with h0 | h0
      · subst h0
        have : zs = [] := List.eq_nil_of_length_eq_zero hzl
        subst this
        have hxs : xs = [] := List.eq_nil_of_length_eq_zero hn
        subst hxs
        have hp0 : parts = #[] := by cases parts; simp at hp; simp [hp]
        subst hp0
        simp [Instr.buildSlice, run_underlying ht, sizeOf, typeInfo, hie, newRow, Instr.fill]
        congr 2
        exact Array.eq_empty_of_size_eq_zero (by simp)
      · rw [run_buildSlice w t e n _ (zs.map (Value.int k)).toArray ie z ht hie hz (by rw [hs]; omega) (by rw [hs]; omega) ?_]
        · rfl
        · rw [hpe, hs, hzs]
          exact Great.fill_flat _ _ (fun v hv => by obtain ⟨x, hxx, rfl⟩ := List.mem_map.1 hv; rfl) (by simp [hzl])
    · cases hd'
      rw [hd]
      refine ⟨_, n, n, zs, rfl, hnm, Nat.le_refl _, by unfold maxLen; omega, hzr, ?_⟩
      have := World.ownsRow_lit (base := B) (e := e) (size := 1) w (zs.map (Value.int k)).toArray n (Nat.le_trans hWB hG.gr.size) (by unfold maxLen; omega) (by simp [hzl])
      simpa using this
/-- make([]T, n), as a list of zeros. -/
theorem t_makelist {n most : Nat} {m lo hi : Int} {k : IntKind} {e : TypeId} {bytes : Nat} (ht : P.underlying t = some (.slice e)) (hinfo : (P.info? e).map (fun i => (i.zero, i.size, i.bytes)) = some (some (.int k 0), 1, bytes)) (hm : m = (n : Int)) (hb : bytes * n ≤ 281474976710656) (hn1 : n ≤ 1000000) (hnm : n ≤ most) (h0 : lo ≤ 0) (h1 : 0 ≤ hi) (hWB : B ≤ W.heap.size) (hd : TS d = tList B e k lo hi most) :
    TStep P Q TS X (Gd W g P0 F E) N i ⟨some d, .makeSlice t (.const (.int .i64 m)) (.const (.int .i64 m)), ty, pos, af, none⟩ :=
  step_run C.gB C.e C.st C.x hXi fun b w p hG ho => by
    subst hm
    refine ⟨.slice (some ⟨w.heap.size, 0, none⟩) n n, w.alloc (.cells (madeCells #[.int k 0] n) e), ?_, GrF.alloc _ _ _, fun d' hd' => ?_⟩
    · unfold execOp
      simp only [Act.eval, Sem.run_bind]
      rw [run_make_row' t e (.int k 0) bytes ht hinfo rfl .i64 .i64 n hb (by omega) w]
      rfl
    · cases hd'
      rw [hd]
      refine ⟨_, n, n, List.replicate n 0, rfl, hnm, Nat.le_refl _, by unfold maxLen; omega, fun z hz => by have := (List.mem_replicate.1 hz).2; omega, ?_⟩
      have := own_made w (.int k 0) e n (by unfold maxLen; omega)
      rw [show List.replicate n (Value.int k 0) = (List.replicate n (0 : Int)).map (Value.int k) from by simp] at this
      exact own_more this (Nat.le_trans hWB hG.gr.size)
/-- A call that draws. -/
theorem t_call {T : VT} {f : FuncId} {xs : Array Operand} {ts : Array TypeId} {fn : Func} (hf : P.funcs[f]? = some fn) (hb : fn.body.isNone = false) (hn : (fn.name == "runtime.NumGoroutine") = false) (hd : TS d = T)
    (hc : ∀ b w, Opd TS ⟨some d, .call { callee := .value (.func f), args := xs, argTypes := ts }, ty, pos, af, none⟩ b w → ∀ q, q ≤ 100000000 → Rd w g q → Calls P f (xs.map b.eval) w fun e w' => ∃ v, e = .returned v ∧ RdC w w' g (q + 100) ∧ w.grownBy w' (some g) ∧ T v w') :
    TStep P Q TS X (Gd W g P0 F E) N i ⟨some d, .call { callee := .value (.func f), args := xs, argTypes := ts }, ty, pos, af, none⟩ :=
  step_call C.gB C.gF C.room C.e C.st C.x hXi fun b w p hG ho => ⟨f, _, run_callf w b _ _ _ _ _ hf hb hn, fun q hq hr => (hc b w ho q hq hr).mono fun e w' ⟨v, he, h1, h2, h3⟩ => ⟨v, he, h1, h2, fun d' hd' => by cases hd'; rw [hd]; exact h3⟩⟩
omit C hXi in
theorem list_one {B : Nat} {e : TypeId} {k : IntKind} {lo hi : Int} {most : Nat} : ∀ v w, tList B e k lo hi most v w → v.oneCell' = true := fun v w h => by obtain ⟨A, n, c, zs, rfl, _⟩ := h; rfl
omit C hXi in
theorem int_one {k : IntKind} {lo hi : Int} : ∀ v w, tInt k lo hi v w → v.oneCell' = true := fun v w h => by obtain ⟨z, _, _, rfl⟩ := h; rfl
end
end Go.Proofs.Ytgdcfhifiincaaa
