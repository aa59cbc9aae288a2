/-
  A region that draws its order, guards in it: it reads old memory and makes new memory; each slot is known by a kind (what is said of its value and of memory that it leads to); no function of the program.
-/
import Derived.Test.YtgdcfhifiincaaaExact
import Derived.Test.YtgdcfhifiincaaaAppend
import Derived.Test.YtgdcfhifiincaaaHost0
import Derived.ArgAppend
namespace Go.Proofs.Ytgdcfhifiincaaa
open Go.RowKit
set_option linter.unusedVariables false

/-- New memory alone. -/
abbrev New (w w' : World) : Prop := GrF (fun _ => False) w w'
theorem New.of_none {w w' : World} (h : w.grownBy w' none) : New w w' := ⟨h.os, h.tape, h.output, h.size, fun k hk _ => h.block k hk (by simp)⟩
theorem New.to_none {w w' : World} (h : New w w') : w.grownBy w' none := ⟨h.os, h.tape, h.output, h.size, fun k hk _ => h.block k hk (fun hf => hf)⟩
theorem New.of_below {w w' : World} (h : Below w.heap.size w w') : New w w' := ⟨h.os, h.tape, h.output, h.size, fun k hk _ => h.block k hk⟩
theorem New.below {B : Nat} {W w w' : World} (hg : New w w') (h : Below B W w) (hB : B ≤ w.heap.size) : Below B W w' := ⟨hg.os.trans h.os, hg.tape.trans h.tape, hg.output.trans h.output, Nat.le_trans h.size hg.size, fun k hk => (hg.block k (by omega) (fun hf => hf)).trans (h.block k hk)⟩
theorem New.own {w w' : World} {base : Nat} {e : TypeId} {size n : Nat} {v : Value} {xs : List Value} (hg : New w w') (h : w.ownsRow base e size v n xs) : w'.ownsRow base e size v n xs := h.kept hg.to_none (by cases hv : v.ownBlock <;> simp)
theorem New.sl {w w' : World} {lo hi size n : Nat} {A : Option Addr} {xs : List Value} (hg : New w w') (h : Sl w lo hi size A n xs) (hh : hi ≤ w.heap.size) : Sl w' lo hi size A n xs := h.keep fun b o _ hb => hg.cell (by omega) (fun hf => hf)
theorem New.blk {w w' : World} {g : Nat} {t : TypeId} {cs : Array Value} (hg : New w w') (h : Blk w g t cs) : Blk w' g t cs := (hg.block g h.lt (fun hf => hf)).trans h
theorem New.cell_ {w w' : World} {b i : Nat} {u : Value} (hg : New w w') (h : w.cell? ⟨b, i, none⟩ = some u) : w'.cell? ⟨b, i, none⟩ = some u := (hg.cell (World.block_lt_of_cell? w ⟨b, i, none⟩ h) (fun hf => hf)).trans h

/-! ### Kinds -/
/-- Owned: a slice that owns a row. -/
def tOwn (B : Nat) (e : TypeId) (size n : Nat) (xs : List Value) : VT := fun u w => ∃ A c, u = .slice A n c ∧ n ≤ c ∧ c ≤ maxLen ∧ w.ownsRow B e size (.slice A n c) n xs
/-- A slice that reads as a list. -/
def tSl (lo size n : Nat) (xs : List Value) : VT := fun u w => ∃ A c, u = .slice A n c ∧ n ≤ c ∧ c ≤ maxLen ∧ Sl w lo w.heap.size size A n xs
/-- A new block with known cells. -/
def tBlk (B : Nat) (t : TypeId) (cs : Array Value) : VT := fun u w => ∃ b, u = .pointer (some ⟨b, 0, none⟩) ∧ B ≤ b ∧ Blk w b t cs
def Keep (T : VT) : Prop := ∀ v w w', New w w' → T v w → T v w'
theorem keep_lit (v : Value) : Keep (tLit v) := fun _ _ _ _ h => h
theorem keep_own {B : Nat} {e : TypeId} {size n : Nat} {xs : List Value} : Keep (tOwn B e size n xs) := by
  rintro v w w' hg ⟨A, c, rfl, h1, h2, h⟩
  exact ⟨A, c, rfl, h1, h2, New.own hg h⟩
theorem keep_sl {lo size n : Nat} {xs : List Value} : Keep (tSl lo size n xs) := by
  rintro v w w' hg ⟨A, c, rfl, h1, h2, h⟩
  exact ⟨A, c, rfl, h1, h2, (New.sl hg h (Nat.le_refl _)).more (Nat.le_refl _) hg.size⟩
theorem keep_blk {B : Nat} {t : TypeId} {cs : Array Value} : Keep (tBlk B t cs) := by
  rintro v w w' hg ⟨b, rfl, h1, h⟩
  exact ⟨b, rfl, h1, New.blk hg h⟩
theorem keep_any : Keep (fun _ _ => True) := fun _ _ _ _ _ => trivial
theorem tOwn.sl {B : Nat} {e : TypeId} {size n : Nat} {xs : List Value} {v : Value} {w : World} (h : tOwn B e size n xs v w) : tSl B size n xs v w := by
  obtain ⟨A, c, rfl, h1, h2, h⟩ := h
  exact ⟨A, c, rfl, h1, h2, Sl.of_own h⟩

def tsM (l : List (Nat × VT)) : Nat → Value → World → Prop := fun s => match l.lookup s with | some T => T | none => fun _ _ => True
def KeepL : List (Nat × VT) → Prop
  | [] => True
  | (_, T) :: r => Keep T ∧ KeepL r
theorem KeepL.at_ : ∀ (l : List (Nat × VT)) (s : Nat) (T : VT), KeepL l → l.lookup s = some T → Keep T
  | [], _, _, _, h => by simp at h
  | (k, U) :: r, s, T, h, hl => by
    rw [List.lookup_cons] at hl
    split at hl
    · cases hl; exact h.1
    · exact KeepL.at_ r s T h.2 hl
theorem keep_ts {l : List (Nat × VT)} (h : KeepL l) (s : Nat) : Keep (tsM l s) := by
  unfold tsM
  cases hl : l.lookup s with
  | some T => exact h.at_ _ _ _ hl
  | none => exact keep_any
theorem tsM_at {l : List (Nat × VT)} {s : Nat} {T : VT} (h : l.lookup s = some T) : tsM l s = T := by unfold tsM; rw [h]
/-- What is known of an operand. -/
def OM (l : List (Nat × VT)) (x : Operand) (T : VT) : Prop := ∀ (o : Oper) (b : Act) (w : World), x ∈ o.op.operands.toList → Opd (tsM l) o b w → T (b.eval x) w
theorem om_tmp {l : List (Nat × VT)} {t : Nat} {T : VT} (h : l.lookup t = some T) : OM l (.tmp t) T := fun o b w hm ho => by
  have := ho t hm
  rw [tsM_at h] at this
  exact this
theorem om_const {l : List (Nat × VT)} {v : Value} : OM l (.const v) (tLit v) := fun _ _ _ _ _ => rfl
theorem OM.imp_ {l : List (Nat × VT)} {x : Operand} {T U : VT} (h : OM l x T) (hi : ∀ v w, T v w → U v w) : OM l x U := fun o b w hm ho => hi _ _ (h o b w hm ho)
def GOkM (ops : Array Oper) (l : List (Nat × VT)) (gd : Option (Nat × Bool)) : Prop := ∀ gi gb, gd = some (gi, gb) → ∃ dg, dstAt ops gi = some dg ∧ l.lookup dg = some (tLit (.bool gb))
theorem gokm_none {ops : Array Oper} {l : List (Nat × VT)} : GOkM ops l none := fun _ _ h => by cases h
theorem gokm_some {ops : Array Oper} {l : List (Nat × VT)} {gi dg : Nat} {gb : Bool} (h1 : dstAt ops gi = some dg) (h2 : l.lookup dg = some (tLit (.bool gb))) : GOkM ops l (some (gi, gb)) := fun _ _ h => by cases h; exact ⟨dg, h1, h2⟩
theorem tsM_old {l : List (Nat × VT)} {ops : Array Oper} {m : Nat} {a : Act} {w : World} (h : ∀ x ∈ l, (List.range m).all (fun i => dstAt ops i != some x.1) = true → x.2 (a.tmps.getD x.1 undef) w) :
    ∀ t, (∀ i, 0 ≤ i → i < m → dstAt ops i ≠ some t) → tsM l t (a.tmps.getD t undef) w := by
  intro t ht
  unfold tsM
  cases hl : l.lookup t with
  | none => trivial
  | some u =>
    have hm : (t, u) ∈ l := by
      clear h ht
      induction l with
      | nil => simp at hl
      | cons x r ih =>
        obtain ⟨k, v⟩ := x
        rw [List.lookup_cons] at hl
        split at hl
        · rename_i e; simp at e; cases hl; subst e; simp
        · exact List.mem_cons_of_mem _ (ih hl)
    exact h _ hm (List.all_eq_true.2 fun i hi => by
      have := ht i (Nat.zero_le _) (List.mem_range.1 hi)
      simpa using this)

section
variable {P : Program} {ops : Array Oper} {Q : Exit → Act → World → Prop} {l : List (Nat × VT)} {W : World} {N i : Nat}
theorem m_run {o : Oper} (hk : KeepL l) (hg : GOkM ops l o.guard) {T : VT} (hd : ∀ d, o.dst = some d → l.lookup d = some T)
    (h : ∀ (b : Act) (w : World) (K : Act → World → Prop), GX W 0 w → Opd (tsM l) o b w → (∀ v w', New w w' → T v w' → K (b.put o.dst v) w') → o.wp P b w K Q) : TStepG P ops Q (tsM l) (fun _ _ => True) (GX W) N i o := by
  intro b w p hp hG ho hgd K hK
  refine ⟨fun _ => h b w K hG ho fun v w' hw' hT => ?_, fun hw => ?_⟩
  · exact hK v w' (hG.trans hw') (fun s u hu => keep_ts hk s u w w' hw' hu) (fun _ _ _ => trivial) (fun d hd' => by rw [tsM_at (hd d hd')]; exact hT) trivial
  · exfalso
    unfold Region.wanted at hw
    cases hgg : o.guard with
    | none => rw [hgg] at hw; cases hw
    | some p =>
      obtain ⟨gi, gb⟩ := p
      obtain ⟨dg, h1, h2⟩ := hg gi gb hgg
      have h3 := hgd gi gb hgg dg h1
      rw [tsM_at h2] at h3
      rw [hgg] at hw
      have h4 : yielded ops b.tmps gi = some gb := by
        unfold yielded
        unfold dstAt at h1
        rw [h1]
        simp only [Option.bind_some]
        have h3' : b.tmps.getD dg undef = .bool gb := h3
        rw [Array.getD_eq_getD_getElem?] at h3'
        cases hb : b.tmps[dg]? with
        | none => rw [hb] at h3'; simp [undef] at h3'
        | some u => rw [hb] at h3'; simp at h3'; rw [h3']
      simp [h4] at hw
/-- An operation that hands back a value, and perhaps makes memory. -/
theorem m_gen {o : Oper} (hk : KeepL l) (hg : GOkM ops l o.guard) {T : VT} (hd : ∀ d, o.dst = some d → l.lookup d = some T)
    (h : ∀ (b : Act) (w : World), GX W 0 w → Opd (tsM l) o b w → ∃ v w', (execOp b.eval o).run P w = .ok (.value v) w' ∧ New w w' ∧ T v w') : TStepG P ops Q (tsM l) (fun _ _ => True) (GX W) N i o :=
  m_run hk hg hd fun b w K hG ho hK => by
    obtain ⟨v, w', hr, hn, hT⟩ := h b w hG ho
    unfold Oper.wp
    rw [hr]
    exact hK v w' hn hT
theorem m_val {o : Oper} (hk : KeepL l) (hg : GOkM ops l o.guard) {T : VT} (hd : ∀ d, o.dst = some d → l.lookup d = some T)
    (h : ∀ (b : Act) (w : World), GX W 0 w → Opd (tsM l) o b w → ∃ v, (execOp b.eval o).run P w = .ok (.value v) w ∧ T v w) : TStepG P ops Q (tsM l) (fun _ _ => True) (GX W) N i o :=
  m_gen hk hg hd fun b w hG ho => by
    obtain ⟨v, hr, hT⟩ := h b w hG ho
    exact ⟨v, w, hr, GrF.refl _ _, hT⟩
/-- An operation whose guard says no. -/
theorem m_skip {o : Oper} {gi dg : Nat} {gb : Bool} {u : Value} (hk : KeepL l) (hgd : o.guard = some (gi, gb)) (h1 : dstAt ops gi = some dg) (h2 : l.lookup dg = some (tLit u)) (hu : u ≠ .bool gb) (hd : ∀ d, o.dst = some d → l.lookup d = some (tLit undef)) : TStepG P ops Q (tsM l) (fun _ _ => True) (GX W) N i o := by
  intro b w p hp hG ho hgg K hK
  refine ⟨fun hw => ?_, fun _ => ?_⟩
  · exfalso
    have h3 := hgg gi gb hgd dg h1
    rw [tsM_at h2] at h3
    have h3' : b.tmps.getD dg undef = u := h3
    unfold Region.wanted at hw
    rw [hgd] at hw
    simp at hw
    unfold yielded at hw
    unfold dstAt at h1
    rw [h1] at hw
    simp only [Option.bind_some] at hw
    rw [Array.getD_eq_getD_getElem?] at h3'
    cases hb : b.tmps[dg]? with
    | none => rw [hb] at hw; simp at hw
    | some x =>
      rw [hb] at hw h3'
      simp at h3'
      subst h3'
      revert hw
      cases x <;> simp
      intro e
      exact hu (by rw [e])
  · exact hK undef w hG (fun _ _ hu => hu) (fun _ _ _ => trivial) (fun d hd' => by rw [tsM_at (hd d hd')]; rfl) trivial
end

section
variable {P : Program} {ops : Array Oper} {Q : Exit → Act → World → Prop} {l : List (Nat × VT)} {W : World} {N i : Nat} {d : Nat} {ty t t2 : TypeId} {pos : String} {af : Array Edge} {x y z : Operand} {gd : Option (Nat × Bool)}
theorem m_move {T : VT} (hk : KeepL l) (hg : GOkM ops l gd) (hx : OM l x T) (hd : l.lookup d = some T) : TStepG P ops Q (tsM l) (fun _ _ => True) (GX W) N i ⟨some d, .move x, ty, pos, af, gd⟩ :=
  m_val hk hg (fun d' h => by cases h; exact hd) fun b w hG ho => ⟨_, rfl, hx _ b w (by simp [Op.operands]) ho⟩
theorem m_assign {T : VT} (hk : KeepL l) (hg : GOkM ops l gd) (hx : OM l x T) (hd : l.lookup d = some T) : TStepG P ops Q (tsM l) (fun _ _ => True) (GX W) N i ⟨some d, .assign x, ty, pos, af, gd⟩ :=
  m_val hk hg (fun d' h => by cases h; exact hd) fun b w hG ho => ⟨_, rfl, hx _ b w (by simp [Op.operands]) ho⟩
theorem m_not {u r : Bool} (hk : KeepL l) (hg : GOkM ops l gd) (hx : OM l x (tLit (.bool u))) (hr : r = !u) (hd : l.lookup d = some (tLit (.bool r))) : TStepG P ops Q (tsM l) (fun _ _ => True) (GX W) N i ⟨some d, .unOp .not t x, ty, pos, af, gd⟩ :=
  m_val hk hg (fun d' h => by cases h; exact hd) fun b w hG ho => ⟨.bool (!u), by
    have e : b.eval x = .bool u := hx _ b w (by simp [Op.operands]) ho
    unfold execOp
    simp only [e]
    simp [go_sem], by subst hr; rfl⟩
theorem m_pickt {T : VT} (hk : KeepL l) (hg : GOkM ops l gd) (hx : OM l x (tLit (.bool true))) (hy : OM l y T) (hd : l.lookup d = some T) : TStepG P ops Q (tsM l) (fun _ _ => True) (GX W) N i ⟨some d, .pick x y z, ty, pos, af, gd⟩ :=
  m_val hk hg (fun d' h => by cases h; exact hd) fun b w hG ho => ⟨b.eval y, by
    have e : b.eval x = .bool true := hx _ b w (by simp [Op.operands]) ho
    unfold execOp
    simp only [e]
    simp [go_sem], hy _ b w (by simp [Op.operands]) ho⟩
theorem m_pickf {T : VT} (hk : KeepL l) (hg : GOkM ops l gd) (hx : OM l x (tLit (.bool false))) (hz : OM l z T) (hd : l.lookup d = some T) : TStepG P ops Q (tsM l) (fun _ _ => True) (GX W) N i ⟨some d, .pick x y z, ty, pos, af, gd⟩ :=
  m_val hk hg (fun d' h => by cases h; exact hd) fun b w hG ho => ⟨b.eval z, by
    have e : b.eval x = .bool false := hx _ b w (by simp [Op.operands]) ho
    unfold execOp
    simp only [e]
    simp [go_sem], hz _ b w (by simp [Op.operands]) ho⟩
/-- A binary operation on two known values: its run is given. -/
theorem m_bin {op : BinOp} {u v r : Value} (hk : KeepL l) (hg : GOkM ops l gd) (hx : OM l x (tLit u)) (hy : OM l y (tLit v)) (hr : ∀ w, (binOp op t u v).run P w = .ok r w) (hq : ∀ w, (eqGuard op t x y u v).run P w = .ok () w) (hnq : op ≠ .shl ∧ op ≠ .shr) (hd : l.lookup d = some (tLit r)) : TStepG P ops Q (tsM l) (fun _ _ => True) (GX W) N i ⟨some d, .binOp op t x y t2, ty, pos, af, gd⟩ :=
  m_val hk hg (fun d' h => by cases h; exact hd) fun b w hG ho => ⟨r, by
    have e1 : b.eval x = u := hx _ b w (by simp [Op.operands]) ho
    have e2 : b.eval y = v := hy _ b w (by simp [Op.operands]) ho
    obtain ⟨n1, n2⟩ := hnq
    unfold execOp
    simp only [e1, e2]
    cases op <;> simp [hr, hq] at n1 n2 ⊢, rfl⟩
/-- A cell of old memory. -/
theorem m_load1 {q o : Nat} {u : Value} (hk : KeepL l) (hg : GOkM ops l gd) (ha : aggOf P t = some false) (hx : OM l x (tLit (.pointer (some ⟨q, o, none⟩)))) (hc : W.cell? ⟨q, o, none⟩ = some u) (hd : l.lookup d = some (tLit u)) :
    TStepG P ops Q (tsM l) (fun _ _ => True) (GX W) N i ⟨some d, .load t x, ty, pos, af, gd⟩ :=
  m_val hk hg (fun d' h => by cases h; exact hd) fun b w hG ho => ⟨u, by
    have e1 : b.eval x = .pointer (some ⟨q, o, none⟩) := hx _ b w (by simp [Op.operands]) ho
    have c1 : w.cell? ⟨q, o, none⟩ = some u := New.cell_ (w := W) hG hc
    unfold execOp
    simp only [e1]
    have hag : (isAgg t).run P w = .ok false w := by
      unfold aggOf at ha
      cases ht : P.underlying t with
      | none => rw [ht] at ha; cases ha
      | some dd =>
        rw [ht] at ha
        simp only [isAgg, Sem.run_bind, run_underlying ht, Result.andThen_ok]
        cases dd <;> first | rfl | (simp at ha)
    simp [Instr.loadAt, Instr.sureAddr, loadVar, hag, c1], rfl⟩
/-- A struct of old memory. -/
theorem m_loadn {q o : Nat} {cs : List Value} (hk : KeepL l) (hg : GOkM ops l gd) (ha : aggOf P t = some true) (hi : (P.info? t).map (·.size) = some cs.length) (hx : OM l x (tLit (.pointer (some ⟨q, o, none⟩)))) (hc : ∀ j v, cs[j]? = some v → W.cell? ⟨q, o + j, none⟩ = some v) (hd : l.lookup d = some (tLit (.agg cs.toArray))) :
    TStepG P ops Q (tsM l) (fun _ _ => True) (GX W) N i ⟨some d, .load t x, ty, pos, af, gd⟩ :=
  m_val hk hg (fun d' h => by cases h; exact hd) fun b w hG ho => ⟨.agg cs.toArray, by
    have e1 : b.eval x = .pointer (some ⟨q, o, none⟩) := hx _ b w (by simp [Op.operands]) ho
    have hl : (loadCells ⟨q, o, none⟩ cs.length).run P w = .ok cs.toArray w := run_loadCells_list (P := P) w ⟨q, o, none⟩ cs (fun j v hv => by
      have hadd : (⟨q, o, none⟩ : Addr).add j = ⟨q, o + j, none⟩ := by unfold Addr.add; split <;> simp_all
      rw [hadd]
      exact New.cell_ (w := W) hG (hc j v hv))
    unfold execOp
    simp only [e1]
    cases hq : P.info? t with
    | none => simp [hq] at hi
    | some ii =>
      have hs : ii.size = cs.length := by simpa [hq] using hi
      have hagg : (isAgg t).run P w = .ok true w := by
        unfold aggOf at ha
        cases ht : P.underlying t with
        | none => rw [ht] at ha; cases ha
        | some dd =>
          rw [ht] at ha
          unfold isAgg
          rw [Sem.run_bind, run_underlying ht w]
          cases dd <;> simp_all
      simp [Instr.loadAt, Instr.sureAddr, loadVar, Sem.run_bind, hagg, sizeOf, typeInfo, hq, hs, hl], rfl⟩
theorem m_field {q o k f s : Nat} {r : Value} (hk : KeepL l) (hg : GOkM ops l gd) (hf : fieldOff P t k = some (f, s)) (hs : 0 < s) (hx : OM l x (tLit (.pointer (some ⟨q, o, none⟩)))) (hr : r = .pointer (some ⟨q, o + f, none⟩)) (hd : l.lookup d = some (tLit r)) :
    TStepG P ops Q (tsM l) (fun _ _ => True) (GX W) N i ⟨some d, .fieldAddr t x k, ty, pos, af, gd⟩ :=
  m_val hk hg (fun d' h => by cases h; exact hd) fun b w hG ho => by
    refine ⟨r, ?_, rfl⟩
    have e1 : b.eval x = .pointer (some ⟨q, o, none⟩) := hx _ b w (by simp [Op.operands]) ho
    subst hr
    unfold fieldOff at hf
    split at hf
    · rename_i fs ht
      split at hf
      · rename_i fd hfd
        cases hi : P.info? fd.type with
        | none => rw [hi] at hf; cases hf
        | some ie =>
          rw [hi] at hf
          simp at hf
          obtain ⟨rfl, rfl⟩ := hf
          have hs' : ¬ ie.size = 0 := by omega
          unfold execOp
          simp only [e1]
          simp [Instr.fieldAt, Instr.sureAddr, run_underlying ht, hfd, fieldPlace, sizeOf, typeInfo, hi, hs', Addr.add]
      · cases hf
    · cases hf
theorem m_index {g o n c s : Nat} {j : Int} {r : Value} (hk : KeepL l) (hg : GOkM ops l gd) (hi : elemSize P t = some s) (h0 : 0 ≤ j) (h1 : j < n) (hx : OM l x (tLit (.slice (some ⟨g, o, none⟩) n c))) (hy : OM l y (tLit (.int .i64 j))) (hr : r = .pointer (some ⟨g, o + j.toNat * s, none⟩)) (hd : l.lookup d = some (tLit r)) :
    TStepG P ops Q (tsM l) (fun _ _ => True) (GX W) N i ⟨some d, .indexAddr t x y, ty, pos, af, gd⟩ :=
  m_val hk hg (fun d' h => by cases h; exact hd) fun b w hG ho => by
    refine ⟨r, ?_, rfl⟩
    have e1 : b.eval x = .slice (some ⟨g, o, none⟩) n c := hx _ b w (by simp [Op.operands]) ho
    have e2 : b.eval y = .int .i64 j := hy _ b w (by simp [Op.operands]) ho
    subst hr
    unfold elemSize at hi
    split at hi
    · rename_i e ht
      cases hie : P.info? e with
      | none => rw [hie] at hi; cases hi
      | some ie =>
        rw [hie] at hi
        simp at hi
        unfold execOp
        simp only [e1, e2]
        simp [Instr.indexAt, asIntOf, run_underlying ht, sizeOf, typeInfo, hie, hi, h0, h1, Addr.add]
    · cases hi
/-- A conversion: of each value of a kind its run is given. -/
theorem m_conv {T U : VT} (hk : KeepL l) (hg : GOkM ops l gd) (hx : OM l x T) (hr : ∀ u w, GX W 0 w → T u w → ∃ v, (convert t t2 u).run P w = .ok v w ∧ U v w) (hd : l.lookup d = some U) : TStepG P ops Q (tsM l) (fun _ _ => True) (GX W) N i ⟨some d, .convert t t2 x, ty, pos, af, gd⟩ :=
  m_val hk hg (fun d' h => by cases h; exact hd) fun b w hG ho => by
    obtain ⟨v, h1, h2⟩ := hr _ w hG (hx _ b w (by simp [Op.operands]) ho)
    refine ⟨v, ?_, h2⟩
    unfold execOp
    simp [h1]
/-- s[lo:hi]: its run is given. -/
theorem m_slice {T U : VT} {lo hi mx : Option Operand} (hk : KeepL l) (hg : GOkM ops l gd) (hx : OM l x T) (vlo vhi : Option Value)
    (hlo : ∀ (o : Oper) (b : Act) (w : World), (∀ y ∈ lo.toList ++ hi.toList, y ∈ o.op.operands.toList) → Opd (tsM l) o b w → lo.map b.eval = vlo ∧ hi.map b.eval = vhi) (hm : mx = none)
    (hr : ∀ u w, GX W 0 w → T u w → ∃ v, (Instr.sliceAt t u vlo vhi none).run P w = .ok v w ∧ U v w) (hd : l.lookup d = some U) : TStepG P ops Q (tsM l) (fun _ _ => True) (GX W) N i ⟨some d, .slice t x lo hi mx, ty, pos, af, gd⟩ :=
  m_val hk hg (fun d' h => by cases h; exact hd) fun b w hG ho => by
    subst hm
    obtain ⟨v, h1, h2⟩ := hr _ w hG (hx _ b w (by simp [Op.operands]) ho)
    obtain ⟨e1, e2⟩ := hlo _ b w (by
      intro y hy
      cases lo <;> cases hi <;> simp [Op.operands] at hy ⊢ <;> first | (simp [hy]; done) | (rcases hy with rfl | rfl <;> simp)) ho
    refine ⟨v, ?_, h2⟩
    unfold execOp
    simp only [e1, e2, Option.map_none, Sem.run_bind, h1, Result.andThen_ok]
    rfl
theorem elem_under {P : Program} {t : TypeId} {s : Nat} (hi : elemSize P t = some s) : P.underlying t = some (.slice (P.elem t)) ∧ ∀ w, (sizeOf (P.elem t)).run P w = .ok s w := by
  unfold elemSize at hi
  split at hi
  · rename_i e ht
    have he : P.elem t = e := by simp [Program.elem, ht]
    rw [he]
    cases hie : P.info? e with
    | none => rw [hie] at hi; cases hi
    | some ie =>
      rw [hie] at hi
      simp at hi
      exact ⟨ht, fun w => by simp [sizeOf, typeInfo, hie, hi]⟩
  · cases hi
theorem Sl.sliced_ {w : World} {lo hi size n : Nat} {A : Option Addr} {xs : List Value} (h : Sl w lo hi size A n xs) {k m cap : Nat} (hk : k ≤ m) (hm : m ≤ n) (hc : n ≤ cap) : ∃ A', sliced A k m cap size = .slice A' (m - k) (cap - k) ∧ Sl w lo hi size A' (m - k) ((xs.take (m * size)).drop (k * size)) :=
  ⟨_, rfl, (h.take hm).cut hk (by omega)⟩
/-- s[k:m] of a slice that is known: it reads as the cut list. -/
theorem m_cut {A : Option Addr} {n c lo hi s : Nat} {k m : Int} {xs : List Value} (hk : KeepL l) (hg : GOkM ops l gd) (hi' : elemSize P t = some s) (hx : OM l x (tLit (.slice A n c))) (hS : Sl W lo hi s A n xs) (hh : hi ≤ W.heap.size) (hnc : n ≤ c) (hc : c ≤ maxLen)
    (hy : OM l y (tLit (.int .i64 k))) (hz : OM l z (tLit (.int .i64 m))) (h0 : 0 ≤ k) (h1 : k ≤ m) (h2 : m ≤ n) (hd : l.lookup d = some (tSl lo s (m.toNat - k.toNat) ((xs.take (m.toNat * s)).drop (k.toNat * s)))) :
    TStepG P ops Q (tsM l) (fun _ _ => True) (GX W) N i ⟨some d, .slice t x (some y) (some z) none, ty, pos, af, gd⟩ :=
  m_slice hk hg hx (some (.int .i64 k)) (some (.int .i64 m)) (fun o b w hm ho => ⟨congrArg some (hy o b w (hm y (by simp)) ho), congrArg some (hz o b w (hm z (by simp)) ho)⟩) rfl (fun u w hG hu => by
    obtain ⟨ht, hs⟩ := elem_under hi'
    subst hu
    obtain ⟨A', e, hS'⟩ := (New.sl (w := W) hG hS hh).sliced_ (k := k.toNat) (m := m.toNat) (cap := c) (by omega) (by omega) hnc
    refine ⟨_, by rw [run_sliceAt_slice w t _ _ _ _ ht, run_slice_lh w t A n c ht .i64 .i64 k m h0 h1 (by omega), hs w]; rfl, ?_⟩
    rw [e]
    exact ⟨A', _, rfl, by omega, by omega, hS'.more (Nat.le_refl _) (Nat.le_trans hh hG.size)⟩) hd
theorem m_cutl {A : Option Addr} {n c lo hi s : Nat} {k : Int} {xs : List Value} (hk : KeepL l) (hg : GOkM ops l gd) (hi' : elemSize P t = some s) (hx : OM l x (tLit (.slice A n c))) (hS : Sl W lo hi s A n xs) (hh : hi ≤ W.heap.size) (hnc : n ≤ c) (hc : c ≤ maxLen)
    (hy : OM l y (tLit (.int .i64 k))) (h0 : 0 ≤ k) (h1 : k ≤ n) (hd : l.lookup d = some (tSl lo s (n - k.toNat) (xs.drop (k.toNat * s)))) :
    TStepG P ops Q (tsM l) (fun _ _ => True) (GX W) N i ⟨some d, .slice t x (some y) none none, ty, pos, af, gd⟩ :=
  m_slice hk hg hx (some (.int .i64 k)) none (fun o b w hm ho => ⟨congrArg some (hy o b w (hm y (by simp)) ho), rfl⟩) rfl (fun u w hG hu => by
    obtain ⟨ht, hs⟩ := elem_under hi'
    subst hu
    have hS0 := New.sl (w := W) hG hS hh
    refine ⟨_, by rw [run_sliceAt_slice w t _ _ _ _ ht, run_slice_l w t A n c ht .i64 k h0 (by omega), hs w]; rfl, ?_⟩
    exact ⟨_, _, rfl, by omega, by omega, (hS0.cut (k := k.toNat) (cap := c) (by omega) hnc).more (Nat.le_refl _) (Nat.le_trans hh hG.size)⟩) hd
/-- append to a slice of one's own that is full (or nil): new memory, or none. -/
theorem run_append_tight {P : Program} (w : World) (base : Nat) (t ty e : TypeId) (i : TypeInfo) (z : Value) (size bytes : Nat) (ht : P.underlying t = some (.slice e)) (hi : P.info? e = some i) (hz : i.zero = some z)
    (hsize : i.size = size) (hby : i.bytes = bytes) (hzs : z.cells.size = size) (hsz : 0 < size)
    (B : Option Addr) (n : Nat) (xs : List Value) (hown : w.ownsRow base e size (.slice B n n) n xs)
    (lo hi' : Nat) (A : Option Addr) (m c : Nat) (news : List Value) (hr : Sl w lo hi' size A m news) (h1 : ∀ u ∈ news, u.oneCell' = true)
    (h63 : n + m ≤ maxLen) (hbytes : (n + m) * bytes ≤ 140737488355328) (hbase : base ≤ w.heap.size) :
    ∃ v' w', (Builtin.append_ #[t, t] ty #[.slice B n n, .slice A m c]).run P w = .ok v' w' ∧ w'.ownsRow base e size v' (n + m) (xs ++ news) ∧ New w w' := by
  rcases Nat.eq_zero_or_pos m with h0 | h0
  · subst h0
    have hn : news = [] := List.eq_nil_of_length_eq_zero (by simpa using hr.1)
    subst hn
    refine ⟨.slice B n n, w, ?_, by simpa using hown, GrF.refl _ _⟩
    cases A with
    | none => exact run_append_of_nil w base t ty e i size ht hi _ n xs hown c
    | some ad =>
      have hl : (loadCells ad 0).run P w = .ok #[] w := by
        have := run_loadCells_list (P := P) w ad [] (fun j v hj => by simp at hj)
        simpa using this
      cases B <;> simp [Builtin.append_, run_underlying ht, sizeOf, typeInfo, hi, Builtin.lenOf, Builtin.firstCells, hl, storeCells]
  · obtain ⟨b, off, rfl, _, _, hc⟩ := hr.2 h0
    have hadd : ∀ (b off j : Nat), (⟨b, off, none⟩ : Addr).add j = ⟨b, off + j, none⟩ := fun b off j => by unfold Addr.add; split <;> simp_all
    rcases hown.2 with ⟨hv, hx⟩ | ⟨g, cap, cur, hv, hb, hblk, _⟩
    · obtain ⟨v', w', hrun, h2, h3, _⟩ := run_append_sl (P := P) w base t ty e i z size bytes ht hi hz hsize hby hzs hsz _ n xs hown lo hi' _ m c news hr h1 h63 hbytes hbase
      refine ⟨v', w', hrun, h2, New.of_none ?_⟩
      rw [hv] at h3
      exact h3
    · injection hv with hv1 hv2 hv3
      subst hv1
      obtain ⟨v', w', hrun, h2, h3⟩ := run_append_arg_grows (P := P) w t ty e i z size bytes ht hi hz hsize hby hzs hsz ⟨g, 0, none⟩ n n xs hown.1 (fun j u hu => by
          rw [hadd]; have := hown.cells (g := g) rfl j u hu; rw [hadd] at this; exact this) ⟨b, off, none⟩ m c news hr.1 (fun j u hu => by rw [hadd]; exact hc j u hu) (by omega) h63 hbytes
      exact ⟨v', w', hrun, own_more h2 hbase, New.of_none h3⟩
/-- append: a base of one's own that is full (or nil), a source that reads as a list. -/
theorem m_append {e : TypeId} {ie : TypeInfo} {zv : Value} {B lo size bytes n m : Nat} {xs news : List Value} (hk : KeepL l) (hg : GOkM ops l gd) (ht : P.underlying t = some (.slice e)) (hi : P.info? e = some ie) (hz : ie.zero = some zv) (hsize : ie.size = size) (hby : ie.bytes = bytes) (hzs : zv.cells.size = size) (hsz : 0 < size)
    (hx : OM l x (fun u w => ∃ A, u = .slice A n n ∧ w.ownsRow B e size (.slice A n n) n xs)) (hy : OM l y (tSl lo size m news)) (h1 : ∀ u ∈ news, u.oneCell' = true) (h63 : n + m ≤ maxLen) (hbytes : (n + m) * bytes ≤ 140737488355328) (hB : B ≤ W.heap.size)
    (hd : l.lookup d = some (tOwn B e size (n + m) (xs ++ news))) :
    TStepG P ops Q (tsM l) (fun _ _ => True) (GX W) N i ⟨some d, .call { callee := .builtin .append, args := #[x, y], argTypes := #[t, t] }, ty, pos, af, gd⟩ :=
  m_gen hk hg (fun d' h => by cases h; exact hd) fun b w hG ho => by
    obtain ⟨A, e1, own⟩ := hx _ b w (by simp [Op.operands, Call.operands]) ho
    obtain ⟨A', c', e2, _, _, hs⟩ := hy _ b w (by simp [Op.operands, Call.operands]) ho
    obtain ⟨v', w', hrun, h2, h3⟩ := run_append_tight (P := P) w B t ty e ie zv size bytes ht hi hz hsize hby hzs hsz A n xs own lo _ A' m c' news hs h1 h63 hbytes (Nat.le_trans hB hG.size)
    refine ⟨v', w', ?_, h3, ?_⟩
    · unfold execOp
      simp only [resolve, invoke, builtin, Sem.run_bind, Sem.run_pure, Result.andThen_ok, List.map_toArray, List.map_cons, List.map_nil, e1, e2, hrun]
    · obtain ⟨A3, c3, rfl, q1, q2⟩ := own_is_slice h2
      exact ⟨A3, c3, rfl, q1, q2, h2⟩
/-- A call: its contract, at every world with new memory alone. -/
theorem m_call {f : FuncId} {xs : Array Operand} {ts : Array TypeId} {fn : Func} {T : VT} (hk : KeepL l) (hg : GOkM ops l gd) (hf : P.funcs[f]? = some fn) (hb : fn.body.isNone = false) (hn : (fn.name == "runtime.NumGoroutine") = false) (hd : l.lookup d = some T)
    (hc : ∀ (o : Oper) (b : Act) (w : World), (∀ x ∈ xs.toList, x ∈ o.op.operands.toList) → GX W 0 w → Opd (tsM l) o b w → Calls P f (xs.map b.eval) w fun e w' => ∃ v, e = .returned v ∧ New w w' ∧ T v w') :
    TStepG P ops Q (tsM l) (fun _ _ => True) (GX W) N i ⟨some d, .call { callee := .value (.func f), args := xs, argTypes := ts }, ty, pos, af, gd⟩ :=
  m_run hk hg (fun d' h => by cases h; exact hd) fun b w K hG ho hK => by
    unfold Oper.wp
    rw [run_callf w b (some d) ty pos af gd hf hb hn, Oper.upon_enter]
    refine (hc _ b w (fun x hx => by simp [Op.operands, Call.operands]; exact .inr (by simpa using hx)) hG ho).mono ?_
    rintro e w' ⟨v, rfl, hg', hT⟩
    exact hK v w' hg' hT
/-- A new block of zeros. -/
theorem m_alloc {e : TypeId} {ie : TypeInfo} {zv : Value} {B : Nat} {cs : Array Value} (hk : KeepL l) (hg : GOkM ops l gd) (hi : P.info? e = some ie) (hz : ie.zero = some zv) (hcs : zv.cells = cs) (hB : B ≤ W.heap.size) (hd : l.lookup d = some (tBlk B e cs)) :
    TStepG P ops Q (tsM l) (fun _ _ => True) (GX W) N i ⟨some d, .alloc e, ty, pos, af, gd⟩ :=
  m_gen hk hg (fun d' h => by cases h; exact hd) fun b w hG ho => by
    refine ⟨.pointer (some ⟨w.heap.size, 0, none⟩), w.alloc (.cells cs e), ?_, GrF.alloc _ _ _, ⟨w.heap.size, rfl, Nat.le_trans hB hG.size, Blk.new _ _ _⟩⟩
    unfold execOp
    simp [Instr.alloc, zeroValue, typeInfo, hi, hz, hcs, newVar, newRow]
/-- A struct put together: of values of the kinds its value is given. -/
theorem m_build {T : VT} {parts : Array (Nat × Operand)} (hk : KeepL l) (hg : GOkM ops l gd) (hd : l.lookup d = some T)
    (h : ∀ (o : Oper) (b : Act) (w : World), (∀ x ∈ parts.toList, x.2 ∈ o.op.operands.toList) → Opd (tsM l) o b w → ∃ cs, P.built t (parts.toList.map fun x => (x.1, b.eval x.2)) = some cs ∧ T (.agg cs) w) :
    TStepG P ops Q (tsM l) (fun _ _ => True) (GX W) N i ⟨some d, .build t parts, ty, pos, af, gd⟩ :=
  m_val hk hg (fun d' h => by cases h; exact hd) fun b w hG ho => by
    obtain ⟨cs, h1, h2⟩ := h _ b w (by
      intro x hx
      simp only [Op.operands]
      simp
      exact ⟨x.1, by simpa using hx⟩) ho
    refine ⟨.agg cs, ?_, h2⟩
    unfold execOp
    simp only [Sem.run_bind]
    have e1 : (parts.map fun x => (x.1, b.eval x.2)).toList = parts.toList.map fun x => (x.1, b.eval x.2) := by simp
    rw [run_build w _ _ cs (by rw [e1]; exact h1)]
    rfl
/-- THE LAW: the first m operations by the kinds of their slots, the others in the text's order. -/
theorem wp_region_mix {id : Nat} {a : Act} (hm : P.follows .mixedOrders = true) (l : List (Nat × VT)) (m N : Nat) (hN : ops.size = N) (ds : List (Option Tmp)) (chk : tchkG ops 0 m a.tmps.size = true) (hch : chain ops m = true) (hds : (List.range' 0 (m - 0)).map (dstAt ops) = ds)
    (no : Nat) (hold : ∀ x ∈ l.take no, x.2 (a.tmps.getD x.1 undef) W.drew) (hnew : (l.drop no).all (fun x => (List.range m).any (fun i => dstAt ops i == some x.1)) = true)
    (steps : TStepsG P ops Q (tsM l) (fun _ _ => True) (GX W.drew) N 0 (ops.toList.take m))
    (done : ∀ vs w', New W w' → (∀ i d T, i < m → dstAt ops i = some d → l.lookup d = some T → T (vs d) w') → wpList P ops Q (ops.toList.drop m) (putL ds vs a) w') : (Code.region id ops true).wp P Q a W := by
  subst hds hN
  obtain ⟨_, c0, _, c2, _⟩ := tchkG_spec chk
  refine wp_region_any hm ?_
  refine wpAny_typedG (TS := tsM l) (X := fun _ _ => True) (G := GX W.drew) chk (fun _ _ _ _ h => h) ?_ (fun fuel listed vs w' hu hf h1 h2 h3 h4 => wpAny_of_upto c2 hch c0 hu (by omega) (done vs w' ?_ ?_)) ops.size _ a _ 0 (by omega) ⟨by simp, rfl, rfl, GrF.refl _ _, ?_, fun s _ => rfl, ?_, tsM_old (fun x hx hno => ?_), ?_, fun i hi => by omega, ?_, ?_⟩
  · intro i o _ hi ho
    have := TStepsG.at_ (ops.toList.take m) 0 i o steps (by rw [List.getElem?_take, if_pos hi]; simpa using ho)
    simpa using this
  · have hG' : GrF (fun _ => False) W.drew w' := h1
    exact ⟨hG'.os, hG'.tape, hG'.output, hG'.size, hG'.block⟩
  · intro i d T hi hid hl
    have := h2 i d (Nat.zero_le _) hi hid
    rwa [tsM_at hl] at this
  · rw [List.countP_eq_zero]
    intro x hx
    simp at hx
    simp [hx.2]
  · intro i d _ hi h
    rw [Array.getD_eq_getD_getElem?, Array.getElem?_replicate] at h
    split at h <;> simp at h
  · rw [← List.take_append_drop no l] at hx
    rcases List.mem_append.1 hx with hx | hx
    · exact hold x hx
    · exfalso
      have := List.all_eq_true.1 hnew x hx
      obtain ⟨i, hi, he⟩ := List.any_eq_true.1 this
      have := List.all_eq_true.1 hno i hi
      simp at this he
      exact this he
  · intro i _ hi h
    rw [Array.getD_eq_getD_getElem?, Array.getElem?_replicate] at h
    split at h <;> simp at h
  · intro i hi
    rw [Array.getD_eq_getD_getElem?, Array.getElem?_replicate]
    split <;> rfl
  · intro i o h
    rw [Array.getD_eq_getD_getElem?, Array.getElem?_replicate] at h
    split at h <;> simp at h
/-- .. all of them. -/
theorem wp_region_mix0 {id : Nat} {a : Act} (hm : P.follows .mixedOrders = true) (l : List (Nat × VT)) (N : Nat) (hN : ops.size = N) (ds : List (Option Tmp)) (chk : tchkG ops 0 N a.tmps.size = true) (hch : chain ops N = true) (hds : (List.range' 0 (N - 0)).map (dstAt ops) = ds)
    (no : Nat) (hold : ∀ x ∈ l.take no, x.2 (a.tmps.getD x.1 undef) W.drew) (hnew : (l.drop no).all (fun x => (List.range N).any (fun i => dstAt ops i == some x.1)) = true)
    (steps : TStepsG P ops Q (tsM l) (fun _ _ => True) (GX W.drew) N 0 (ops.toList.take N))
    (done : ∀ vs w', New W w' → (∀ i d T, i < N → dstAt ops i = some d → l.lookup d = some T → T (vs d) w') → Q .normal (putL ds vs a) w') : (Code.region id ops true).wp P Q a W :=
  wp_region_mix hm l N N hN ds chk hch hds no hold hnew steps fun vs w' h1 h2 => by
    rw [List.drop_of_length_le (by simp [hN])]
    exact done vs w' h1 h2
end
end Go.Proofs.Ytgdcfhifiincaaa
