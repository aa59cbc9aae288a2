/-
  A region that draws its order, guards in it, all values known: it only reads, and makes new memory (a callee's boxes); no function of the program.
-/
import Derived.Test.YtgdcfhifiincaaaTypedG
import Derived.Test.YtgdcfhifiincaaaTMore
namespace Go.Proofs.Ytgdcfhifiincaaa
open Go.RowKit
set_option linter.unusedVariables false

/-- Slots of known values. -/
def tsX (l : List (Nat × Value)) : Nat → Value → World → Prop := fun s v _ => match l.lookup s with | some u => v = u | none => True
/-- Old memory is as it was. -/
def GX (W : World) (_ : Nat) (w : World) : Prop := GrF (fun _ => False) W w
def OX (l : List (Nat × Value)) (x : Operand) (u : Value) : Prop := ∀ (o : Oper) (b : Act) (w : World), x ∈ o.op.operands.toList → Opd (tsX l) o b w → b.eval x = u
theorem ox_tmp {l : List (Nat × Value)} {t : Nat} {u : Value} (h : l.lookup t = some u) : OX l (.tmp t) u := fun o b w hm ho => by
  have := ho t hm
  unfold tsX at this
  rw [h] at this
  exact this
theorem ox_const {l : List (Nat × Value)} {v : Value} : OX l (.const v) v := fun _ _ _ _ _ => rfl
def OXs (l : List (Nat × Value)) : List Operand → List Value → Prop
  | [], [] => True
  | x :: r, u :: us => OX l x u ∧ OXs l r us
  | _, _ => False
theorem OXs.eval {l : List (Nat × Value)} {o : Oper} {b : Act} {w : World} : ∀ (xs : List Operand) (us : List Value), OXs l xs us → (∀ x ∈ xs, x ∈ o.op.operands.toList) → Opd (tsX l) o b w → xs.map b.eval = us
  | [], [], _, _, _ => rfl
  | [], _ :: _, h, _, _ => h.elim
  | _ :: _, [], h, _, _ => h.elim
  | x :: r, u :: us, h, hm, ho => by
    rw [List.map_cons, h.1 o b w (hm x (by simp)) ho, OXs.eval r us h.2 (fun y hy => hm y (by simp [hy])) ho]
/-- The guard, if there is one, says yes. -/
def GOk (ops : Array Oper) (l : List (Nat × Value)) (gd : Option (Nat × Bool)) : Prop := ∀ gi gb, gd = some (gi, gb) → ∃ dg, dstAt ops gi = some dg ∧ l.lookup dg = some (.bool gb)
theorem gok_none {ops : Array Oper} {l : List (Nat × Value)} : GOk ops l none := fun _ _ h => by cases h
theorem gok_some {ops : Array Oper} {l : List (Nat × Value)} {gi dg : Nat} {gb : Bool} (h1 : dstAt ops gi = some dg) (h2 : l.lookup dg = some (.bool gb)) : GOk ops l (some (gi, gb)) := fun _ _ h => by cases h; exact ⟨dg, h1, h2⟩
theorem tsX_old {l : List (Nat × Value)} {ops : Array Oper} {a : Act} {w : World} (h : ∀ x ∈ l, (List.range ops.size).all (fun i => dstAt ops i != some x.1) = true → a.tmps.getD x.1 undef = x.2) :
    ∀ t, (∀ i, 0 ≤ i → i < ops.size → dstAt ops i ≠ some t) → tsX l t (a.tmps.getD t undef) w := by
  intro t ht
  unfold tsX
  cases hl : l.lookup t with
  | none => trivial
  | some u =>
    have hm : (t, u) ∈ l := by
      clear h ht
      induction l with
      | nil => simp at hl
      | cons x r ih =>
        obtain ⟨k, v⟩ := x
        rw [List.lookup_cons] at hl
        split at hl
        · rename_i e; simp at e; cases hl; subst e; simp
        · exact List.mem_cons_of_mem _ (ih hl)
    exact h _ hm (List.all_eq_true.2 fun i hi => by
      have := ht i (Nat.zero_le _) (List.mem_range.1 hi)
      simpa using this)

section
variable {P : Program} {ops : Array Oper} {Q : Exit → Act → World → Prop} {l : List (Nat × Value)} {W : World} {N i : Nat}
theorem x_run {o : Oper} (hg : GOk ops l o.guard) {v : Value} (hd : ∀ d, o.dst = some d → l.lookup d = some v)
    (h : ∀ (b : Act) (w : World) (K : Act → World → Prop), GX W 0 w → Opd (tsX l) o b w → (∀ w', GrF (fun _ => False) w w' → K (b.put o.dst v) w') → o.wp P b w K Q) : TStepG P ops Q (tsX l) (fun _ _ => True) (GX W) N i o := by
  intro b w p hp hG ho hgd K hK
  refine ⟨fun _ => h b w K hG ho fun w' hw' => ?_, fun hw => ?_⟩
  · exact hK v w' (hG.trans hw') (fun _ _ hu => hu) (fun _ _ _ => trivial) (fun d hd' => by unfold tsX; rw [hd d hd']) trivial
  · exfalso
    unfold Region.wanted at hw
    cases hgg : o.guard with
    | none => rw [hgg] at hw; cases hw
    | some p =>
      obtain ⟨gi, gb⟩ := p
      obtain ⟨dg, h1, h2⟩ := hg gi gb hgg
      have h3 := hgd gi gb hgg dg h1
      unfold tsX at h3
      rw [h2] at h3
      rw [hgg] at hw
      have h4 : yielded ops b.tmps gi = some gb := by
        unfold yielded
        unfold dstAt at h1
        rw [h1]
        simp only [Option.bind_some]
        rw [Array.getD_eq_getD_getElem?] at h3
        cases hb : b.tmps[dg]? with
        | none => rw [hb] at h3; simp [undef] at h3
        | some u => rw [hb] at h3; simp at h3; rw [h3]
      simp [h4] at hw
theorem x_val {o : Oper} (hg : GOk ops l o.guard) {v : Value} (hd : ∀ d, o.dst = some d → l.lookup d = some v)
    (h : ∀ (b : Act) (w : World), GX W 0 w → Opd (tsX l) o b w → (execOp b.eval o).run P w = .ok (.value v) w) : TStepG P ops Q (tsX l) (fun _ _ => True) (GX W) N i o :=
  x_run hg hd fun b w K hG ho hK => by
    unfold Oper.wp
    rw [h b w hG ho]
    exact hK w (GrF.refl _ _)
/-- An operation whose guard says no. -/
theorem x_skip {o : Oper} {gi dg : Nat} {gb : Bool} {u : Value} (hgd : o.guard = some (gi, gb)) (h1 : dstAt ops gi = some dg) (h2 : l.lookup dg = some u) (hu : u ≠ .bool gb) (hd : ∀ d, o.dst = some d → l.lookup d = some undef) : TStepG P ops Q (tsX l) (fun _ _ => True) (GX W) N i o := by
  intro b w p hp hG ho hgg K hK
  refine ⟨fun hw => ?_, fun _ => ?_⟩
  · exfalso
    have h3 := hgg gi gb hgd dg h1
    unfold tsX at h3
    rw [h2] at h3
    unfold Region.wanted at hw
    rw [hgd] at hw
    simp at hw
    unfold yielded at hw
    unfold dstAt at h1
    rw [h1] at hw
    simp only [Option.bind_some] at hw
    rw [Array.getD_eq_getD_getElem?] at h3
    cases hb : b.tmps[dg]? with
    | none => rw [hb] at hw; simp at hw
    | some x =>
      rw [hb] at hw h3
      simp at h3
      subst h3
      revert hw
      cases x <;> simp
      intro e
      exact hu (by rw [e])
  · exact hK undef w hG (fun _ _ hu => hu) (fun _ _ _ => trivial) (fun d hd' => by unfold tsX; rw [hd d hd']) trivial
end

section
variable {P : Program} {ops : Array Oper} {Q : Exit → Act → World → Prop} {l : List (Nat × Value)} {W : World} {N i : Nat} {d : Nat} {ty t t2 : TypeId} {pos : String} {af : Array Edge} {x y z : Operand} {gd : Option (Nat × Bool)}
theorem x_move {u : Value} (hg : GOk ops l gd) (hx : OX l x u) (hd : l.lookup d = some u) : TStepG P ops Q (tsX l) (fun _ _ => True) (GX W) N i ⟨some d, .move x, ty, pos, af, gd⟩ :=
  x_val hg (fun d' h => by cases h; exact hd) fun b w hG ho => by
    have e := hx _ b w (by simp [Op.operands]) ho
    show Result.ok (Next.value (b.eval x)) w = _
    rw [e]
theorem x_assign {u : Value} (hg : GOk ops l gd) (hx : OX l x u) (hd : l.lookup d = some u) : TStepG P ops Q (tsX l) (fun _ _ => True) (GX W) N i ⟨some d, .assign x, ty, pos, af, gd⟩ :=
  x_val hg (fun d' h => by cases h; exact hd) fun b w hG ho => by
    have e := hx _ b w (by simp [Op.operands]) ho
    show Result.ok (Next.value (b.eval x)) w = _
    rw [e]
theorem x_not {u : Bool} (hg : GOk ops l gd) (hx : OX l x (.bool u)) (hd : l.lookup d = some (.bool (!u))) : TStepG P ops Q (tsX l) (fun _ _ => True) (GX W) N i ⟨some d, .unOp .not t x, ty, pos, af, gd⟩ :=
  x_val hg (fun d' h => by cases h; exact hd) fun b w hG ho => by
    have e := hx _ b w (by simp [Op.operands]) ho
    unfold execOp
    simp only [e]
    simp [go_sem]
theorem x_pick {c : Bool} {u v r : Value} (hg : GOk ops l gd) (hx : OX l x (.bool c)) (hy : OX l y u) (hz : OX l z v) (hr : r = if c then u else v) (hd : l.lookup d = some r) : TStepG P ops Q (tsX l) (fun _ _ => True) (GX W) N i ⟨some d, .pick x y z, ty, pos, af, gd⟩ :=
  x_val hg (fun d' h => by cases h; exact hd) fun b w hG ho => by
    have e1 := hx _ b w (by simp [Op.operands]) ho
    have e2 := hy _ b w (by simp [Op.operands]) ho
    have e3 := hz _ b w (by simp [Op.operands]) ho
    subst hr
    unfold execOp
    simp only [e1, e2, e3]
    cases c <;> simp [go_sem]
theorem x_lss {m n : Int} {r : Bool} (hg : GOk ops l gd) (hx : OX l x (.int .i64 m)) (hy : OX l y (.int .i64 n)) (hr : r = decide (m < n)) (hd : l.lookup d = some (.bool r)) : TStepG P ops Q (tsX l) (fun _ _ => True) (GX W) N i ⟨some d, .binOp .lss t x y t2, ty, pos, af, gd⟩ :=
  x_val hg (fun d' h => by cases h; exact hd) fun b w hG ho => by
    have e1 := hx _ b w (by simp [Op.operands]) ho
    have e2 := hy _ b w (by simp [Op.operands]) ho
    subst hr
    unfold execOp
    simp only [e1, e2]
    simp [go_sem]
theorem x_gtr {m n : Int} {r : Bool} (hg : GOk ops l gd) (hx : OX l x (.int .i64 m)) (hy : OX l y (.int .i64 n)) (hr : r = decide (n < m)) (hd : l.lookup d = some (.bool r)) : TStepG P ops Q (tsX l) (fun _ _ => True) (GX W) N i ⟨some d, .binOp .gtr t x y t2, ty, pos, af, gd⟩ :=
  x_val hg (fun d' h => by cases h; exact hd) fun b w hG ho => by
    have e1 := hx _ b w (by simp [Op.operands]) ho
    have e2 := hy _ b w (by simp [Op.operands]) ho
    subst hr
    unfold execOp
    simp only [e1, e2]
    simp [go_sem]
theorem x_leq {m n : Int} {r : Bool} (hg : GOk ops l gd) (hx : OX l x (.int .i64 m)) (hy : OX l y (.int .i64 n)) (hr : r = decide (m ≤ n)) (hd : l.lookup d = some (.bool r)) : TStepG P ops Q (tsX l) (fun _ _ => True) (GX W) N i ⟨some d, .binOp .leq t x y t2, ty, pos, af, gd⟩ :=
  x_val hg (fun d' h => by cases h; exact hd) fun b w hG ho => by
    have e1 := hx _ b w (by simp [Op.operands]) ho
    have e2 := hy _ b w (by simp [Op.operands]) ho
    subst hr
    unfold execOp
    simp only [e1, e2]
    simp [go_sem]
theorem x_eql {m n : Int} {r : Bool} (hg : GOk ops l gd) (hx : OX l x (.int .i64 m)) (hy : OX l y (.int .i64 n)) (hr : r = (m == n)) (hd : l.lookup d = some (.bool r)) : TStepG P ops Q (tsX l) (fun _ _ => True) (GX W) N i ⟨some d, .binOp .eql t x y t2, ty, pos, af, gd⟩ :=
  x_val hg (fun d' h => by cases h; exact hd) fun b w hG ho => by
    have e1 := hx _ b w (by simp [Op.operands]) ho
    have e2 := hy _ b w (by simp [Op.operands]) ho
    subst hr
    unfold execOp
    simp only [e1, e2]
    simp [go_sem]
theorem x_sub {m n r : Int} (hg : GOk ops l gd) (hx : OX l x (.int .i64 m)) (hy : OX l y (.int .i64 n)) (hr : r = m - n) (hb : -9223372036854775808 ≤ m - n ∧ m - n ≤ 9223372036854775807) (hd : l.lookup d = some (.int .i64 r)) : TStepG P ops Q (tsX l) (fun _ _ => True) (GX W) N i ⟨some d, .binOp .sub t x y t2, ty, pos, af, gd⟩ :=
  x_val hg (fun d' h => by cases h; exact hd) fun b w hG ho => by
    subst hr
    exact run_sub w b _ x y _ _ _ _ _ _ (hx _ b w (by simp [Op.operands]) ho) (hy _ b w (by simp [Op.operands]) ho) hb
theorem x_add {m n r : Int} (hg : GOk ops l gd) (hx : OX l x (.int .i64 m)) (hy : OX l y (.int .i64 n)) (hr : r = m + n) (hb : -9223372036854775808 ≤ m + n ∧ m + n ≤ 9223372036854775807) (hd : l.lookup d = some (.int .i64 r)) : TStepG P ops Q (tsX l) (fun _ _ => True) (GX W) N i ⟨some d, .binOp .add t x y t2, ty, pos, af, gd⟩ :=
  x_val hg (fun d' h => by cases h; exact hd) fun b w hG ho => by
    subst hr
    exact run_add w b _ x y _ _ _ _ _ _ (hx _ b w (by simp [Op.operands]) ho) (hy _ b w (by simp [Op.operands]) ho) hb
/-- The place and the size of a field; an element's size; is it a struct or an array, and of how many cells. (Closed facts: 'kernel_rfl'.) -/
def fieldOff (P : Program) (t : TypeId) (k : Nat) : Option (Nat × Nat) :=
  match P.underlying t with
  | some (.struct fs) => match fs[k]? with
    | some f => (P.info? f.type).map fun i => (f.offset, i.size)
    | none => none
  | _ => none
def elemSize (P : Program) (t : TypeId) : Option Nat :=
  match P.underlying t with
  | some (.slice e) => (P.info? e).map (·.size)
  | _ => none
def aggOf (P : Program) (t : TypeId) : Option Bool := (P.underlying t).map fun d => match d with | .struct _ | .array _ _ => true | _ => false
/-- The address of a field: a field with cells. -/
theorem x_field {q o k f s : Nat} {r : Value} (hg : GOk ops l gd) (hf : fieldOff P t k = some (f, s)) (hs : 0 < s) (hx : OX l x (.pointer (some ⟨q, o, none⟩))) (hr : r = .pointer (some ⟨q, o + f, none⟩)) (hd : l.lookup d = some r) :
    TStepG P ops Q (tsX l) (fun _ _ => True) (GX W) N i ⟨some d, .fieldAddr t x k, ty, pos, af, gd⟩ :=
  x_val hg (fun d' h => by cases h; exact hd) fun b w hG ho => by
    have e1 := hx _ b w (by simp [Op.operands]) ho
    subst hr
    unfold fieldOff at hf
    split at hf
    · rename_i fs ht
      split at hf
      · rename_i fd hfd
        cases hi : P.info? fd.type with
        | none => rw [hi] at hf; cases hf
        | some ie =>
          rw [hi] at hf
          simp at hf
          obtain ⟨rfl, rfl⟩ := hf
          have hs' : ¬ ie.size = 0 := by omega
          unfold execOp
          simp only [e1]
          simp [Instr.fieldAt, Instr.sureAddr, run_underlying ht, hfd, fieldPlace, sizeOf, typeInfo, hi, hs', Addr.add]
      · cases hf
    · cases hf
/-- The address of an element of a slice. -/
theorem x_index {g o n c s : Nat} {j : Int} {r : Value} (hg : GOk ops l gd) (hi : elemSize P t = some s) (h0 : 0 ≤ j) (h1 : j < n) (hx : OX l x (.slice (some ⟨g, o, none⟩) n c)) (hy : OX l y (.int .i64 j)) (hr : r = .pointer (some ⟨g, o + j.toNat * s, none⟩)) (hd : l.lookup d = some r) :
    TStepG P ops Q (tsX l) (fun _ _ => True) (GX W) N i ⟨some d, .indexAddr t x y, ty, pos, af, gd⟩ :=
  x_val hg (fun d' h => by cases h; exact hd) fun b w hG ho => by
    have e1 := hx _ b w (by simp [Op.operands]) ho
    have e2 := hy _ b w (by simp [Op.operands]) ho
    subst hr
    unfold elemSize at hi
    split at hi
    · rename_i e ht
      cases hie : P.info? e with
      | none => rw [hie] at hi; cases hi
      | some ie =>
        rw [hie] at hi
        simp at hi
        unfold execOp
        simp only [e1, e2]
        simp [Instr.indexAt, asIntOf, run_underlying ht, sizeOf, typeInfo, hie, hi, h0, h1, Addr.add]
    · cases hi
/-- A cell of old memory. -/
theorem x_load1 {q o : Nat} {u : Value} (hg : GOk ops l gd) (ha : aggOf P t = some false) (hx : OX l x (.pointer (some ⟨q, o, none⟩))) (hc : W.cell? ⟨q, o, none⟩ = some u) (hd : l.lookup d = some u) :
    TStepG P ops Q (tsX l) (fun _ _ => True) (GX W) N i ⟨some d, .load t x, ty, pos, af, gd⟩ :=
  x_val hg (fun d' h => by cases h; exact hd) fun b w hG ho => by
    have e1 := hx _ b w (by simp [Op.operands]) ho
    have c1 : w.cell? ⟨q, o, none⟩ = some u := (hG.cell (World.block_lt_of_cell? W ⟨q, o, none⟩ hc) (fun h => h)).trans hc
    unfold execOp
    simp only [e1]
    have hag : (isAgg t).run P w = .ok false w := by
      unfold aggOf at ha
      cases ht : P.underlying t with
      | none => rw [ht] at ha; cases ha
      | some dd =>
        rw [ht] at ha
        simp only [isAgg, Sem.run_bind, run_underlying ht, Result.andThen_ok]
        cases dd <;> first | rfl | (simp at ha)
    simp [Instr.loadAt, Instr.sureAddr, loadVar, hag, c1]
/-- A struct of old memory. -/
theorem x_loadn {q o : Nat} {cs : List Value} (hg : GOk ops l gd) (ha : aggOf P t = some true) (hi : (P.info? t).map (·.size) = some cs.length) (hx : OX l x (.pointer (some ⟨q, o, none⟩))) (hc : ∀ j v, cs[j]? = some v → W.cell? ⟨q, o + j, none⟩ = some v) (hd : l.lookup d = some (.agg cs.toArray)) :
    TStepG P ops Q (tsX l) (fun _ _ => True) (GX W) N i ⟨some d, .load t x, ty, pos, af, gd⟩ :=
  x_val hg (fun d' h => by cases h; exact hd) fun b w hG ho => by
    have e1 := hx _ b w (by simp [Op.operands]) ho
    have hl : (loadCells ⟨q, o, none⟩ cs.length).run P w = .ok cs.toArray w := run_loadCells_list (P := P) w ⟨q, o, none⟩ cs (fun j v hv => by
      have hadd : (⟨q, o, none⟩ : Addr).add j = ⟨q, o + j, none⟩ := by unfold Addr.add; split <;> simp_all
      rw [hadd]
      have := hc j v hv
      exact (hG.cell (World.block_lt_of_cell? W ⟨q, o + j, none⟩ this) (fun h => h)).trans this)
    unfold execOp
    simp only [e1]
    cases hq : P.info? t with
    | none => simp [hq] at hi
    | some ii =>
      have hs : ii.size = cs.length := by simpa [hq] using hi
      have hagg : (isAgg t).run P w = .ok true w := by
        unfold aggOf at ha
        cases ht : P.underlying t with
        | none => rw [ht] at ha; cases ha
        | some dd =>
          rw [ht] at ha
          unfold isAgg
          rw [Sem.run_bind, run_underlying ht w]
          cases dd <;> simp_all
      simp [Instr.loadAt, Instr.sureAddr, loadVar, Sem.run_bind, hagg, sizeOf, typeInfo, hq, hs, hl]
/-- A call of a function that leaves old memory as it was. -/
theorem x_call {f : FuncId} {xs : Array Operand} {ts : Array TypeId} {fn : Func} {us : List Value} {v : Value} (hg : GOk ops l gd) (hf : P.funcs[f]? = some fn) (hb : fn.body.isNone = false) (hn : (fn.name == "runtime.NumGoroutine") = false) (hx : OXs l xs.toList us) (hd : l.lookup d = some v)
    (hc : ∀ w, GX W 0 w → Calls P f us.toArray w fun e w' => e = .returned v ∧ GrF (fun _ => False) w w') :
    TStepG P ops Q (tsX l) (fun _ _ => True) (GX W) N i ⟨some d, .call { callee := .value (.func f), args := xs, argTypes := ts }, ty, pos, af, gd⟩ :=
  x_run hg (fun d' h => by cases h; exact hd) fun b w K hG ho hK => by
    unfold Oper.wp
    rw [run_callf w b (some d) ty pos af gd hf hb hn, Oper.upon_enter]
    have hmem : ∀ x ∈ xs.toList, x ∈ (Op.call { callee := .value (.func f), args := xs, argTypes := ts } : Op).operands.toList := by
      intro x hx
      simp [Op.operands, Call.operands]
      exact .inr (by simpa using hx)
    have he := OXs.eval xs.toList us hx hmem ho
    have he' : xs.map b.eval = us.toArray := by
      apply Array.toList_inj.1
      rw [Array.toList_map, he]
    rw [he']
    refine (hc w hG).mono ?_
    rintro e w' ⟨rfl, hg'⟩
    exact hK w' hg'
theorem putL_congr {vs vs' : Nat → Value} : ∀ (ds : List (Option Tmp)) (a : Act), (∀ d, some d ∈ ds → vs d = vs' d) → putL ds vs a = putL ds vs' a
  | [], _, _ => rfl
  | none :: r, a, h => putL_congr r a fun d hd => h d (by simp [hd])
  | some d :: r, a, h => by
    rw [putL, putL, h d (by simp)]
    exact putL_congr r _ fun e he => h e (by simp [he])
/-- THE LAW, all values known. -/
theorem wp_region_exact {id : Nat} {a : Act} (hm : P.follows .mixedOrders = true) (l : List (Nat × Value)) (N : Nat) (hN : ops.size = N) (ds : List (Option Tmp)) (chk : tchkG ops 0 ops.size a.tmps.size = true) (hds : (List.range' 0 (ops.size - 0)).map (dstAt ops) = ds)
    (hcov : ds.all (fun d => match d with | none => true | some d => (l.lookup d).isSome) = true) (no : Nat) (hold : ∀ x ∈ l.take no, a.tmps.getD x.1 undef = x.2) (hnew : (l.drop no).all (fun x => (List.range ops.size).any (fun i => dstAt ops i == some x.1)) = true)
    (steps : TStepsG P ops Q (tsX l) (fun _ _ => True) (GX W.drew) N 0 ops.toList)
    (done : ∀ w', GrF (fun _ => False) W w' → Q .normal (putL ds (fun s => (l.lookup s).getD undef) a) w') : (Code.region id ops true).wp P Q a W := by
  refine wp_region_typedG hm (tsX l) (fun _ _ => True) (GX W.drew) N hN ds chk hds (fun _ _ _ _ h => h) (GrF.refl _ _) (tsX_old fun x hx hno => ?_) steps fun vs w' hG hty _ => ?_
  · rw [← List.take_append_drop no l] at hx
    rcases List.mem_append.1 hx with hx | hx
    · exact hold x hx
    · exfalso
      have := List.all_eq_true.1 hnew x hx
      obtain ⟨i, hi, he⟩ := List.any_eq_true.1 this
      have := List.all_eq_true.1 hno i hi
      simp at this he
      exact this he
  subst hN
  have hG' : GrF (fun _ => False) W.drew w' := hG
  have h := done w' ⟨hG'.os, hG'.tape, hG'.output, hG'.size, hG'.block⟩
  rw [putL_congr ds a (vs' := vs) ?_] at h
  · exact h
  · intro d hd
    have hc := List.all_eq_true.1 hcov _ hd
    simp only at hc
    cases hl : l.lookup d with
    | none => rw [hl] at hc; cases hc
    | some u =>
      rw [← hds] at hd
      obtain ⟨i, hi, he⟩ := List.mem_map.1 hd
      have hi' := List.mem_range'_1.1 hi
      have := hty i d (Nat.zero_le _) (by omega) he
      unfold tsX at this
      rw [hl] at this
      simp [this]
end
end Go.Proofs.Ytgdcfhifiincaaa
