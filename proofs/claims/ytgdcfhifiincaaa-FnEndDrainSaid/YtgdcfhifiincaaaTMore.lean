/-
  More kinds of operations of a drawing function: structs of numbers, new variables.
-/
import Derived.Test.YtgdcfhifiincaaaTPick
import Derived.Laws.Tables
namespace Go.Proofs.Ytgdcfhifiincaaa
open Go.RowKit
set_option linter.unusedVariables false

/-- A struct of n numbers. -/
def tAgg (n : Nat) (lo hi : Int) : VT := fun u _ => ∃ zs : List Int, zs.length = n ∧ (∀ z ∈ zs, lo ≤ z ∧ z ≤ hi) ∧ u = .agg (zs.map (Value.int .i64)).toArray
theorem stab_agg {B n : Nat} {lo hi : Int} : Stab B (tAgg n lo hi) := fun _ _ _ _ h => h

section
variable {P : Program} {Q : Exit → Act → World → Prop} {TS : Nat → Value → World → Prop} {X : Nat → World → Prop} {W : World} {g P0 B N : Nat} {F : Nat → Prop} {E : World → Prop} (C : Ctx P g P0 B N F E TS X) {i : Nat} (hXi : ∀ w, X i w) {d : Nat} {ty t t2 : TypeId} {pos : String} {af : Array Edge} {x y : Operand}
include C hXi

omit C hXi in
/-- The operands of a literal, all numbers in range, as a list. -/
theorem ints_of {o : Oper} {lo hi : Int} {k : IntKind} (xs : List Operand) {b : Act} {w : World} (hmem : ∀ x ∈ xs, x ∈ o.op.operands.toList) (hx : OTs TS (tInt k lo hi) xs) (ho : Opd TS o b w) :
    ∃ zs : List Int, xs.map b.eval = zs.map (Value.int k) ∧ zs.length = xs.length ∧ ∀ z ∈ zs, lo ≤ z ∧ z ≤ hi := by
  induction xs with
  | nil => exact ⟨[], rfl, rfl, by simp⟩
  | cons x r ih =>
    obtain ⟨zs, h1, hl, h2⟩ := ih (fun y hy => hmem y (by simp [hy])) hx.2
    obtain ⟨z, z1, z2, ez⟩ := hx.1 o b w (hmem x (by simp)) ho
    refine ⟨z :: zs, by simp [h1, ez], by simp [hl], ?_⟩
    intro y hy
    rcases List.mem_cons.1 hy with rfl | hy
    · exact ⟨z1, z2⟩
    · exact h2 y hy
/-- A struct literal of numbers. -/
theorem t_agg {n : Nat} {lo hi : Int} {parts : Array (Nat × Operand)} (xs : List Operand) (hp : parts.toList = (xs.zipIdx 0).map fun x => (x.2, x.1)) (hn : xs.length = n)
    (hb : ∀ zs : List Int, zs.length = n → P.built t (((zs.map (Value.int .i64)).zipIdx 0).map fun x => (x.2, x.1)) = some (zs.map (Value.int .i64)).toArray)
    (hx : OTs TS (tInt .i64 lo hi) xs) (hd : TS d = tAgg n lo hi) : TStep P Q TS X (Gd W g P0 F E) N i ⟨some d, .build t parts, ty, pos, af, none⟩ :=
  step_same C.gB C.e C.st C.x hXi fun b w p hG ho => by
    have hmem : ∀ x ∈ xs, x ∈ (Op.build t parts).operands.toList := by
      intro x hxx
      simp only [Op.operands, hp]
      simp
      obtain ⟨k, hk, rfl⟩ := List.getElem_of_mem hxx
      exact ⟨k, List.mem_zipIdx_iff_getElem?.2 (List.getElem?_eq_getElem hk)⟩
    obtain ⟨zs, e1, e2, e3⟩ := ints_of xs hmem hx ho
    have hpe : (parts.map fun (i, x) => (i, b.eval x)).toList = ((xs.map b.eval).zipIdx 0).map fun x => (x.2, x.1) := by
      rw [Array.toList_map, hp, List.zipIdx_map, List.map_map, List.map_map]
      rfl
    refine ⟨.agg (zs.map (Value.int .i64)).toArray, ?_, fun d' hd' => by cases hd'; rw [hd]; exact ⟨zs, by omega, e3, rfl⟩⟩
    unfold execOp
    simp only [Sem.run_bind]
    rw [run_build w t _ (zs.map (Value.int .i64)).toArray (by rw [hpe, e1]; exact hb zs (by omega))]
    rfl
/-- A new variable of n cells. -/
theorem t_new {n : Nat} {e : TypeId} {ie : TypeInfo} {z : Value} (hie : P.info? e = some ie) (hz : ie.zero = some z) (hs : z.cells.size = n) (hWB : B ≤ W.heap.size) (hd : TS d = tNew B e n) :
    TStep P Q TS X (Gd W g P0 F E) N i ⟨some d, .alloc e, ty, pos, af, none⟩ :=
  step_run C.gB C.e C.st C.x hXi fun b w p hG ho => by
    refine ⟨.pointer (some ⟨w.heap.size, 0, none⟩), w.alloc (.cells z.cells e), ?_, GrF.alloc _ _ _, fun d' hd' => ?_⟩
    · unfold execOp
      simp [Instr.alloc, zeroValue, typeInfo, hie, hz, newVar, newRow]
    · cases hd'
      rw [hd]
      exact ⟨w.heap.size, rfl, Nat.le_trans hWB hG.gr.size, z.cells, hs, Blk.new _ _ _⟩
/-- A struct of an old block that is known whole. -/
theorem t_loadold {q : Nat} {tt : TypeId} {cs : Array Value} {dd : TypeDesc} (ht : P.underlying t = some dd) (hda : (match dd with | .struct _ | .array _ _ => true | _ => false) = true) (hi : (P.info? t).map (·.size) = some cs.size) (hq : Blk W q tt cs) (hqF : ¬ F q)
    (hx : OT TS x (tLit (.pointer (some ⟨q, 0, none⟩)))) (hd : TS d = tLit (.agg cs)) : TStep P Q TS X (Gd W g P0 F E) N i ⟨some d, .load t x, ty, pos, af, none⟩ :=
  step_same C.gB C.e C.st C.x hXi fun b w p hG ho => by
    have e1 : b.eval x = .pointer (some ⟨q, 0, none⟩) := hx _ b w (by simp [Op.operands]) ho
    refine ⟨.agg cs, ?_, fun d' hd' => by cases hd'; rw [hd]; rfl⟩
    unfold execOp
    simp only [e1, Instr.loadAt, Instr.sureAddr, Sem.run_bind, Sem.run_pure, Result.andThen_ok]
    rw [run_loadVar_row w q tt t cs (0, 0) dd ((hG.gr.block q hq.lt hqF).trans hq) ht hda hi]
    rfl
/-- The address of a field of such a block. -/
theorem t_fieldold {q k : Nat} {fs : Array Field} {fd : Field} {ie : TypeInfo} (ht : P.underlying t = some (.struct fs)) (hf : fs[k]? = some fd) (hi : P.info? fd.type = some ie) (hs : ie.size = 1) (hx : OT TS x (tLit (.pointer (some ⟨q, 0, none⟩)))) (hk : fd.offset = k) (hk0 : 0 < k)
    (hd : TS d = tLit (.pointer (some ⟨q, k, none⟩))) : TStep P Q TS X (Gd W g P0 F E) N i ⟨some d, .fieldAddr t x k, ty, pos, af, none⟩ :=
  step_same C.gB C.e C.st C.x hXi fun b w p hG ho => by
    have e1 : b.eval x = .pointer (some ⟨q, 0, none⟩) := hx _ b w (by simp [Op.operands]) ho
    refine ⟨.pointer (some ⟨q, k, none⟩), ?_, fun d' hd' => by cases hd'; rw [hd]; rfl⟩
    unfold execOp
    simp only [e1]
    simp [Instr.fieldAt, Instr.sureAddr, run_underlying ht, hf, fieldPlace, sizeOf, typeInfo, hi, hs, hk, Addr.add]
    omega
/-- A number of such a block. -/
theorem t_loadnum {q k : Nat} {u : Value} {T : VT} {tt : TypeId} {cs : Array Value} {dd : TypeDesc} (ht : P.underlying t = some dd) (hda : (match dd with | .struct _ | .array _ _ => true | _ => false) = false) (hq : Blk W q tt cs) (hqF : ¬ F q) (hu : cs[k]? = some u) (hT : ∀ w, T u w)
    (hx : OT TS x (tLit (.pointer (some ⟨q, k, none⟩)))) (hd : TS d = T) : TStep P Q TS X (Gd W g P0 F E) N i ⟨some d, .load t x, ty, pos, af, none⟩ :=
  step_same C.gB C.e C.st C.x hXi fun b w p hG ho => by
    have e1 : b.eval x = .pointer (some ⟨q, k, none⟩) := hx _ b w (by simp [Op.operands]) ho
    have hb : Blk w q tt cs := (hG.gr.block q hq.lt hqF).trans hq
    have hc : w.cell? ⟨q, k, none⟩ = some u := by rw [hb.cell]; exact hu
    refine ⟨u, ?_, fun d' hd' => by cases hd'; rw [hd]; exact hT w⟩
    unfold execOp
    simp only [e1]
    have hag : (isAgg t).run P w = .ok false w := by
      simp only [isAgg, Sem.run_bind, run_underlying ht, Result.andThen_ok]
      cases dd <;> first | rfl | cases hda
    simp [Instr.loadAt, Instr.sureAddr, loadVar, hag, hc]
/-- The result's block, and the reader's bytes below it. -/
def Eres (g res n : Nat) (tt : TypeId) (A : Option Addr) (m c : Nat) (zs : List Int) (w : World) : Prop :=
  w.cell? ⟨g, 0, none⟩ = some (.slice A m c) ∧ Sl w 0 res 1 A m (zs.map (Value.int .u8)) ∧ ∃ cs : Array Value, cs.size = n ∧ Blk w res tt cs
omit C hXi in
theorem Eres.keep {res n : Nat} {tt : TypeId} {A : Option Addr} {m c : Nat} {zs : List Int} (hr : res < g) (w w' : World) (hg : GrC g w w') (h : Eres g res n tt A m c zs w) : Eres g res n tt A m c zs w' := by
  obtain ⟨h1, h2, cs, h3, h4⟩ := h
  have hlt := h4.lt
  exact ⟨hg.2.trans h1, h2.keep fun b o _ hb => hg.1.cell (by omega) (by omega), cs, h3, (hg.1.block res hlt (by omega)).trans h4⟩
omit hXi in
/-- A struct is stored into the result's block, whenever. -/
theorem t_storeres {res n m c : Nat} {tt : TypeId} {A : Option Addr} {zs : List Int} {cells : Array Value} (hEe : E = Eres g res n tt A m c zs) (hz : AllByte zs) (hr : res < g) (hrB : res < B) (hFr : F res) (hx : OT TS x (tLit (.pointer (some ⟨res, 0, none⟩)))) (hy : OT TS y (tLit (.agg cells)))
    (hi : (P.info? t).map (·.size) = some cells.size) (hn : cells.size = n) (h1 : cells.all (·.oneCell') = true) (hXo : ∀ j w, j ≠ i → X j w) (hXs : ∀ w, Blk w res tt cells → X i w) :
    TStep P Q TS X (Gd W g P0 F E) N i ⟨none, .store t x y, ty, pos, af, none⟩ := by
  subst hEe
  intro b w p hp hG ho K hK
  obtain ⟨hrd, hgr, hc0, h2, h3, cs, hcs, hb⟩ := hG
  have e1 : b.eval x = .pointer (some ⟨res, 0, none⟩) := hx _ b w (by simp [Op.operands]) ho
  have e2 : b.eval y = .agg cells := hy _ b w (by simp [Op.operands]) ho
  refine wp_store_row t x y rfl res cells e1 e2 tt cs hb hi (by omega) h1 ?_
  have hgs : GrF (· = res) w (w.setRow res cells) := ⟨rfl, rfl, rfl, by simp, fun k _ hn => setRow_other w res k cells hn⟩
  have hc : (w.setRow res cells).cell? ⟨g, 0, none⟩ = w.cell? ⟨g, 0, none⟩ := cell_setRow_other w res cells ⟨g, 0, none⟩ (by show g ≠ res; omega)
  have hsl : Sl (w.setRow res cells) 0 res 1 A m (zs.map (Value.int .u8)) := h3.keep fun b o _ hb' => cell_setRow_other w res cells ⟨b, o, none⟩ (by show b ≠ res; omega)
  have hbs : Blk (w.setRow res cells) res tt cells := setRow_heap w res cs cells tt (0, 0) hb
  refine hK undef _ ⟨?_, hgr.trans (hgs.mono fun k hk => by rw [hk]; exact hFr), hc.trans hc0, hc.trans h2, hsl, cells, hn, hbs⟩ (fun s u hu => C.st s u w _ (hgs.mono fun k hk => by omega) hu) (fun j hj _ => hXo j _ hj) (fun d hd => by cases hd) (hXs _ hbs)
  obtain ⟨A', n', c', p', zs', a1, a2, a3, a4, a5, a6, a7⟩ := hrd
  have hA := a7.two.1.symm.trans h2
  cases hA
  exact ⟨A, m, c, p', zs, a1, a2, a3, by omega, hz, hsl.more (Nat.le_refl _) (by omega), (setRow_other w res g cells (by omega)).trans a7⟩
end

/-! ### The end of a region: a result that lies in a block, and results in slots, in any order -/
/-- The block res of the result alone is written. -/
def Ge (W0 : World) (res n : Nat) (t : TypeId) (_ : Nat) (w : World) : Prop := GrF (· = res) W0 w ∧ ∃ cs : Array Value, cs.size = n ∧ Blk w res t cs
def Xe (m res : Nat) (t : TypeId) (cells : Array Value) (j : Nat) (w : World) : Prop := j = m → Blk w res t cells
theorem Blk.setRow {w : World} {g : Nat} {t : TypeId} {cs cells : Array Value} (h : Blk w g t cs) : Blk (w.setRow g cells) g t cells := setRow_heap w g cs cells t (0, 0) h
theorem GrF.setRow (w : World) (g : Nat) (cells : Array Value) : GrF (· = g) w (w.setRow g cells) := ⟨rfl, rfl, rfl, by simp, fun k _ hn => setRow_other w g k cells hn⟩
section
variable {P : Program} {Q : Exit → Act → World → Prop} {old : List (Nat × Value)} {new : List (Nat × Value)} {W0 : World} {res n m N : Nat} {tt : TypeId} {cells : Array Value} {ty t : TypeId} {pos : String} {af : Array Edge}
/-- All slots are known exactly. -/
def lits (l : List (Nat × Value)) : List (Nat × VT) := l.map fun x => (x.1, tLit x.2)
theorem lits_any (l : List (Nat × Value)) (s : Nat) (u : Value) (w w' : World) (h : tsOf old (lits l) s u w) : tsOf old (lits l) s u w' := by
  have hl : ∀ l : List (Nat × Value), StabL 0 (lits l) := by
    intro l
    induction l with
    | nil => trivial
    | cons x r ih => exact ⟨stab_lit _, ih⟩
  unfold tsOf at h ⊢
  cases ho : old.lookup s with
  | some v => rw [ho] at h; exact h
  | none =>
    rw [ho] at h
    cases hn : (lits l).lookup s with
    | none => trivial
    | some T =>
      rw [hn] at h
      have : ∃ v, T = tLit v := by
        clear h ho hl
        induction l with
        | nil => simp [lits] at hn
        | cons x r ih =>
          obtain ⟨k, v⟩ := x
          rw [show lits ((k, v) :: r) = (k, tLit v) :: lits r from rfl, List.lookup_cons] at hn
          split at hn
          · cases hn; exact ⟨v, rfl⟩
          · exact ih hn
      obtain ⟨v, rfl⟩ := this
      exact h
theorem end_store {x y : Operand} (hx : OT (tsOf old (lits new)) x (tLit (.pointer (some ⟨res, 0, none⟩)))) (hy : OT (tsOf old (lits new)) y (tLit (.agg cells))) (hi : (P.info? t).map (·.size) = some cells.size) (hn : cells.size = n) (h1 : cells.all (·.oneCell') = true) :
    TStep P Q (tsOf old (lits new)) (Xe m res tt cells) (Ge W0 res n tt) N m ⟨none, .store t x y, ty, pos, af, none⟩ := by
  intro b w p hp hG ho K hK
  obtain ⟨hg, cs, hcs, hb⟩ := hG
  have e1 : b.eval x = .pointer (some ⟨res, 0, none⟩) := hx _ b w (by simp [Op.operands]) ho
  have e2 : b.eval y = .agg cells := hy _ b w (by simp [Op.operands]) ho
  refine wp_store_row t x y rfl res cells e1 e2 tt cs hb hi (by omega) h1 ?_
  exact hK undef _ ⟨hg.trans (GrF.setRow w res cells), cells, hn, hb.setRow⟩ (fun s u hu => lits_any new s u _ _ hu) (fun j hj hxj e => absurd e hj) (fun d hd => by cases hd) (fun _ => hb.setRow)
theorem end_assign {i d : Nat} {x : Operand} {v : Value} (him : i ≠ m) (hx : OT (tsOf old (lits new)) x (tLit v)) (hd : tsOf old (lits new) d = tLit v) : TStep P Q (tsOf old (lits new)) (Xe m res tt cells) (Ge W0 res n tt) N i ⟨some d, .assign x, ty, pos, af, none⟩ := by
  intro b w p hp hG ho K hK
  have e1 : b.eval x = v := hx _ b w (by simp [Op.operands]) ho
  have hr : (execOp b.eval ⟨some d, .assign x, ty, pos, af, none⟩).run P w = .ok (.value (b.eval x)) w := rfl
  unfold Oper.wp
  rw [hr, Oper.upon_value]
  exact hK _ w hG (fun s u hu => hu) (fun j _ hxj => hxj) (fun d' hd' => by cases hd'; rw [hd, e1]; rfl) (fun e => absurd e him)
end
end Go.Proofs.Ytgdcfhifiincaaa
