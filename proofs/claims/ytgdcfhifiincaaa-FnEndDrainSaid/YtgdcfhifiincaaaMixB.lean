/-
  Steps of XMix for numbers: comparisons, sums, conversions; no function of the program.
-/
import Derived.Test.YtgdcfhifiincaaaMix
import Derived.Test.YtgdcfhifiincaaaStr
namespace Go.Proofs.Ytgdcfhifiincaaa
open Go.RowKit
set_option linter.unusedVariables false

/-- An empty slice of one's own, without room. -/
def tFull (B : Nat) (e : TypeId) (size : Nat) : VT := fun u w => ∃ A, u = .slice A 0 0 ∧ w.ownsRow B e size (.slice A 0 0) 0 []
theorem keep_full {B : Nat} {e : TypeId} {size : Nat} : Keep (tFull B e size) := by
  rintro v w w' hg ⟨A, rfl, h⟩
  exact ⟨A, rfl, New.own hg h⟩

section
variable {P : Program} {ops : Array Oper} {Q : Exit → Act → World → Prop} {l : List (Nat × VT)} {W : World} {N i : Nat} {d : Nat} {ty t t2 : TypeId} {pos : String} {af : Array Edge} {x y z : Operand} {gd : Option (Nat × Bool)}
theorem eqg_int (w : World) (op : BinOp) (t : TypeId) (x y : Operand) (k k' : IntKind) (m n : Int) : (eqGuard op t x y (.int k m) (.int k' n)).run P w = .ok () w := by
  unfold eqGuard
  cases op <;> rfl
theorem eqg_bool (w : World) (op : BinOp) (t : TypeId) (x y : Operand) (m n : Bool) : (eqGuard op t x y (.bool m) (.bool n)).run P w = .ok () w := by
  unfold eqGuard
  cases op <;> rfl
theorem eqg_string (w : World) (op : BinOp) (t : TypeId) (x y : Operand) (m n : ByteArray) : (eqGuard op t x y (.string m) (.string n)).run P w = .ok () w := by
  unfold eqGuard
  cases op <;> rfl
/-- A binary operation on two kinds: its run is given. -/
theorem m_binT {op : BinOp} {T U V : VT} (hk : KeepL l) (hg : GOkM ops l gd) (hx : OM l x T) (hy : OM l y U) (hr : ∀ u v w, GX W 0 w → T u w → U v w → ∃ r, (∀ x y, (eqGuard op t x y u v).run P w = .ok () w) ∧ (binOp op t u v).run P w = .ok r w ∧ V r w) (hnq : op ≠ .shl ∧ op ≠ .shr) (hd : l.lookup d = some V) : TStepG P ops Q (tsM l) (fun _ _ => True) (GX W) N i ⟨some d, .binOp op t x y t2, ty, pos, af, gd⟩ :=
  m_val hk hg (fun d' h => by cases h; exact hd) fun b w hG ho => by
    obtain ⟨r, h1, h2, h3⟩ := hr _ _ w hG (hx _ b w (by simp [Op.operands]) ho) (hy _ b w (by simp [Op.operands]) ho)
    refine ⟨r, ?_, h3⟩
    obtain ⟨n1, n2⟩ := hnq
    unfold execOp
    cases op <;> simp [h1, h2] at n1 n2 ⊢
theorem m_cmp {op : BinOp} {m n : Int} {r : Bool} (hk : KeepL l) (hg : GOkM ops l gd) {k : IntKind} (hx : OM l x (tLit (.int k m))) (hy : OM l y (tLit (.int k n))) (hr : ∀ w, (binOp op t (.int k m) (.int k n)).run P w = .ok (.bool r) w) (hnq : op ≠ .shl ∧ op ≠ .shr) (hd : l.lookup d = some (tLit (.bool r))) : TStepG P ops Q (tsM l) (fun _ _ => True) (GX W) N i ⟨some d, .binOp op t x y t2, ty, pos, af, gd⟩ :=
  m_bin hk hg hx hy hr (fun w => eqg_int w op t x y k k m n) hnq hd
theorem m_lss {k : IntKind} {m n : Int} {r : Bool} (hk : KeepL l) (hg : GOkM ops l gd) (hx : OM l x (tLit (.int k m))) (hy : OM l y (tLit (.int k n))) (hr : r = decide (m < n)) (hd : l.lookup d = some (tLit (.bool r))) : TStepG P ops Q (tsM l) (fun _ _ => True) (GX W) N i ⟨some d, .binOp .lss t x y t2, ty, pos, af, gd⟩ :=
  m_cmp hk hg hx hy (fun w => by subst hr; simp [go_sem]) ⟨by simp, by simp⟩ hd
theorem m_gtr {k : IntKind} {m n : Int} {r : Bool} (hk : KeepL l) (hg : GOkM ops l gd) (hx : OM l x (tLit (.int k m))) (hy : OM l y (tLit (.int k n))) (hr : r = decide (n < m)) (hd : l.lookup d = some (tLit (.bool r))) : TStepG P ops Q (tsM l) (fun _ _ => True) (GX W) N i ⟨some d, .binOp .gtr t x y t2, ty, pos, af, gd⟩ :=
  m_cmp hk hg hx hy (fun w => by subst hr; simp [go_sem]) ⟨by simp, by simp⟩ hd
theorem m_leq {k : IntKind} {m n : Int} {r : Bool} (hk : KeepL l) (hg : GOkM ops l gd) (hx : OM l x (tLit (.int k m))) (hy : OM l y (tLit (.int k n))) (hr : r = decide (m ≤ n)) (hd : l.lookup d = some (tLit (.bool r))) : TStepG P ops Q (tsM l) (fun _ _ => True) (GX W) N i ⟨some d, .binOp .leq t x y t2, ty, pos, af, gd⟩ :=
  m_cmp hk hg hx hy (fun w => by subst hr; simp [go_sem]) ⟨by simp, by simp⟩ hd
theorem m_geq {k : IntKind} {m n : Int} {r : Bool} (hk : KeepL l) (hg : GOkM ops l gd) (hx : OM l x (tLit (.int k m))) (hy : OM l y (tLit (.int k n))) (hr : r = decide (n ≤ m)) (hd : l.lookup d = some (tLit (.bool r))) : TStepG P ops Q (tsM l) (fun _ _ => True) (GX W) N i ⟨some d, .binOp .geq t x y t2, ty, pos, af, gd⟩ :=
  m_cmp hk hg hx hy (fun w => by subst hr; simp [go_sem]) ⟨by simp, by simp⟩ hd
theorem m_eql {k : IntKind} {m n : Int} {r : Bool} (hk : KeepL l) (hg : GOkM ops l gd) (hx : OM l x (tLit (.int k m))) (hy : OM l y (tLit (.int k n))) (hr : r = (m == n)) (hd : l.lookup d = some (tLit (.bool r))) : TStepG P ops Q (tsM l) (fun _ _ => True) (GX W) N i ⟨some d, .binOp .eql t x y t2, ty, pos, af, gd⟩ :=
  m_cmp hk hg hx hy (fun w => by subst hr; simp [go_sem]) ⟨by simp, by simp⟩ hd
theorem m_neq {k : IntKind} {m n : Int} {r : Bool} (hk : KeepL l) (hg : GOkM ops l gd) (hx : OM l x (tLit (.int k m))) (hy : OM l y (tLit (.int k n))) (hr : r = (m != n)) (hd : l.lookup d = some (tLit (.bool r))) : TStepG P ops Q (tsM l) (fun _ _ => True) (GX W) N i ⟨some d, .binOp .neq t x y t2, ty, pos, af, gd⟩ :=
  m_cmp hk hg hx hy (fun w => by subst hr; simp [go_sem]) ⟨by simp, by simp⟩ hd
theorem m_neqb {m n r : Bool} (ht : P.underlying t = some .bool) (hk : KeepL l) (hg : GOkM ops l gd) (hx : OM l x (tLit (.bool m))) (hy : OM l y (tLit (.bool n))) (hr : r = (m != n)) (hd : l.lookup d = some (tLit (.bool r))) : TStepG P ops Q (tsM l) (fun _ _ => True) (GX W) N i ⟨some d, .binOp .neq t x y t2, ty, pos, af, gd⟩ :=
  m_bin hk hg hx hy (fun w => by subst hr; simp only [binOp, Op.equal, Op.maxDepth, Sem.run_bind, run_equalIn_bool' w 9999 t m n ht, Result.andThen_ok, Sem.run_pure]; rfl) (fun w => eqg_bool w _ t x y m n) ⟨by simp, by simp⟩ hd
theorem m_eqlb {m n r : Bool} (ht : P.underlying t = some .bool) (hk : KeepL l) (hg : GOkM ops l gd) (hx : OM l x (tLit (.bool m))) (hy : OM l y (tLit (.bool n))) (hr : r = (m == n)) (hd : l.lookup d = some (tLit (.bool r))) : TStepG P ops Q (tsM l) (fun _ _ => True) (GX W) N i ⟨some d, .binOp .eql t x y t2, ty, pos, af, gd⟩ :=
  m_bin hk hg hx hy (fun w => by subst hr; simp only [binOp, Op.equal, Op.maxDepth, Sem.run_bind, run_equalIn_bool' w 9999 t m n ht, Result.andThen_ok, Sem.run_pure]) (fun w => eqg_bool w _ t x y m n) ⟨by simp, by simp⟩ hd
theorem m_add {m n r : Int} (hk : KeepL l) (hg : GOkM ops l gd) (hx : OM l x (tLit (.int .i64 m))) (hy : OM l y (tLit (.int .i64 n))) (hr : r = m + n) (hb : -9223372036854775808 ≤ m + n ∧ m + n ≤ 9223372036854775807) (hd : l.lookup d = some (tLit (.int .i64 r))) : TStepG P ops Q (tsM l) (fun _ _ => True) (GX W) N i ⟨some d, .binOp .add t x y t2, ty, pos, af, gd⟩ :=
  m_val hk hg (fun d' h => by cases h; exact hd) fun b w hG ho => ⟨.int .i64 (m + n), run_add w b _ x y _ _ _ _ _ _ (hx _ b w (by simp [Op.operands]) ho) (hy _ b w (by simp [Op.operands]) ho) hb, by subst hr; rfl⟩
theorem m_sub {m n r : Int} (hk : KeepL l) (hg : GOkM ops l gd) (hx : OM l x (tLit (.int .i64 m))) (hy : OM l y (tLit (.int .i64 n))) (hr : r = m - n) (hb : -9223372036854775808 ≤ m - n ∧ m - n ≤ 9223372036854775807) (hd : l.lookup d = some (tLit (.int .i64 r))) : TStepG P ops Q (tsM l) (fun _ _ => True) (GX W) N i ⟨some d, .binOp .sub t x y t2, ty, pos, af, gd⟩ :=
  m_val hk hg (fun d' h => by cases h; exact hd) fun b w hG ho => ⟨.int .i64 (m - n), run_sub w b _ x y _ _ _ _ _ _ (hx _ b w (by simp [Op.operands]) ho) (hy _ b w (by simp [Op.operands]) ho) hb, by subst hr; rfl⟩
theorem m_mul {m n r : Int} (hk : KeepL l) (hg : GOkM ops l gd) (hx : OM l x (tLit (.int .i64 m))) (hy : OM l y (tLit (.int .i64 n))) (hr : r = m * n) (hb : -9223372036854775808 ≤ m * n ∧ m * n ≤ 9223372036854775807) (hd : l.lookup d = some (tLit (.int .i64 r))) : TStepG P ops Q (tsM l) (fun _ _ => True) (GX W) N i ⟨some d, .binOp .mul t x y t2, ty, pos, af, gd⟩ :=
  m_val hk hg (fun d' h => by cases h; exact hd) fun b w hG ho => ⟨.int .i64 (m * n), run_mul w b _ x y _ _ _ _ _ _ (hx _ b w (by simp [Op.operands]) ho) (hy _ b w (by simp [Op.operands]) ho) hb, by subst hr; rfl⟩
/-- A number made another kind of number, in whose range it lies. -/
theorem m_convi {k k' : IntKind} {m : Int} (hk : KeepL l) (hg : GOkM ops l gd) (hx : OM l x (tLit (.int k m))) (hs : (P.underlying t).isSome = true) (ht : P.underlying t2 = some (.int k')) (hw : k'.wrap m = m) (hd : l.lookup d = some (tLit (.int k' m))) : TStepG P ops Q (tsM l) (fun _ _ => True) (GX W) N i ⟨some d, .convert t t2 x, ty, pos, af, gd⟩ :=
  m_conv hk hg hx (fun u w _ hu => by subst hu; exact ⟨.int k' m, by
    have he : P.intKind t2 = k' := by simp [Program.intKind, ht]
    have := run_convert_int (P := P) w t t2 k m hs (by rw [he]; exact ht)
    rw [he, hw] at this
    exact this, rfl⟩) hd
/-- The bytes of a slice as a string. -/
theorem m_str {e : TypeId} {lo n : Nat} {zs : List Int} (hk : KeepL l) (hg : GOkM ops l gd) (hx : OM l x (tSl lo 1 n (zs.map (Value.int .u8)))) (hs : P.underlying t = some (.slice e)) (he : P.underlying e = some (.int .u8)) (ht : P.underlying t2 = some .string) (hd : l.lookup d = some (tLit (.string (strOfNums zs)))) : TStepG P ops Q (tsM l) (fun _ _ => True) (GX W) N i ⟨some d, .convert t t2 x, ty, pos, af, gd⟩ :=
  m_conv hk hg hx (fun u w _ hu => by obtain ⟨A, c, rfl, _, _, hS⟩ := hu; exact ⟨_, run_convert_sl w t e t2 hs he ht c hS, rfl⟩) hd
theorem m_strl {e : TypeId} {A : Option Addr} {lo hi n c : Nat} {zs : List Int} (hk : KeepL l) (hg : GOkM ops l gd) (hx : OM l x (tLit (.slice A n c))) (hS : Sl W lo hi 1 A n (zs.map (Value.int .u8))) (hh : hi ≤ W.heap.size) (hs : P.underlying t = some (.slice e)) (he : P.underlying e = some (.int .u8)) (ht : P.underlying t2 = some .string) (hd : l.lookup d = some (tLit (.string (strOfNums zs)))) : TStepG P ops Q (tsM l) (fun _ _ => True) (GX W) N i ⟨some d, .convert t t2 x, ty, pos, af, gd⟩ :=
  m_conv hk hg hx (fun u w hG hu => by subst hu; exact ⟨_, run_convert_sl w t e t2 hs he ht c (New.sl (w := W) hG hS hh), rfl⟩) hd
theorem m_neqs {a b : ByteArray} {r : Bool} (hk : KeepL l) (hg : GOkM ops l gd) (hx : OM l x (tLit (.string a))) (hy : OM l y (tLit (.string b))) (hr : r = !(a.toList == b.toList)) (hd : l.lookup d = some (tLit (.bool r))) : TStepG P ops Q (tsM l) (fun _ _ => True) (GX W) N i ⟨some d, .binOp .neq t x y t2, ty, pos, af, gd⟩ :=
  m_bin hk hg hx hy (fun w => by rw [binOp_string_neq, hr]; rfl) (fun w => eqg_string w _ t x y a b) ⟨by simp, by simp⟩ hd
/-- append to nil. -/
theorem m_append0 {e : TypeId} {ie : TypeInfo} {zv : Value} {B lo size bytes m : Nat} {news : List Value} (hk : KeepL l) (hg : GOkM ops l gd) (ht : P.underlying t = some (.slice e)) (hi : P.info? e = some ie) (hz : ie.zero = some zv) (hsize : ie.size = size) (hby : ie.bytes = bytes) (hzs : zv.cells.size = size) (hsz : 0 < size)
    (hx : OM l x (tLit (.slice none 0 0))) (hy : OM l y (tSl lo size m news)) (h1 : ∀ u ∈ news, u.oneCell' = true) (h63 : m ≤ maxLen) (hbytes : m * bytes ≤ 140737488355328) (hB : B ≤ W.heap.size)
    (hd : l.lookup d = some (tOwn B e size m news)) :
    TStepG P ops Q (tsM l) (fun _ _ => True) (GX W) N i ⟨some d, .call { callee := .builtin .append, args := #[x, y], argTypes := #[t, t] }, ty, pos, af, gd⟩ :=
  m_append (n := 0) (xs := []) hk hg ht hi hz hsize hby hzs hsz (hx.imp_ fun v w h => ⟨none, h, World.ownsRow_nil _ _ _ _⟩) hy h1 (by omega) (by simpa using hbytes) hB (by rw [hd, Nat.zero_add, List.nil_append])
/-- append to an empty row of one's own that is full. -/
theorem m_append1 {e : TypeId} {ie : TypeInfo} {zv : Value} {B lo size bytes m : Nat} {news : List Value} (hk : KeepL l) (hg : GOkM ops l gd) (ht : P.underlying t = some (.slice e)) (hi : P.info? e = some ie) (hz : ie.zero = some zv) (hsize : ie.size = size) (hby : ie.bytes = bytes) (hzs : zv.cells.size = size) (hsz : 0 < size)
    (hx : OM l x (tFull B e size)) (hy : OM l y (tSl lo size m news)) (h1 : ∀ u ∈ news, u.oneCell' = true) (h63 : m ≤ maxLen) (hbytes : m * bytes ≤ 140737488355328) (hB : B ≤ W.heap.size)
    (hd : l.lookup d = some (tOwn B e size m news)) :
    TStepG P ops Q (tsM l) (fun _ _ => True) (GX W) N i ⟨some d, .call { callee := .builtin .append, args := #[x, y], argTypes := #[t, t] }, ty, pos, af, gd⟩ :=
  m_append (n := 0) (xs := []) hk hg ht hi hz hsize hby hzs hsz hx hy h1 (by omega) (by simpa using hbytes) hB (by rw [hd, Nat.zero_add, List.nil_append])
/-- A literal slice without elements. -/
theorem m_row0 {e : TypeId} {ie : TypeInfo} {zv : Value} {B size : Nat} (hk : KeepL l) (hg : GOkM ops l gd) (ht : P.underlying t = some (.slice e)) (hi : P.info? e = some ie) (hz : ie.zero = some zv) (hsize : ie.size = size) (hB : B ≤ W.heap.size)
    (hd : l.lookup d = some (tFull B e size)) : TStepG P ops Q (tsM l) (fun _ _ => True) (GX W) N i ⟨some d, .buildSlice t 0 #[], ty, pos, af, gd⟩ :=
  m_gen hk hg (fun d' h => by cases h; exact hd) fun b w hG ho => by
    refine ⟨.slice (some ⟨w.heap.size, 0, none⟩) 0 0, w.alloc (.cells #[] e), ?_, GrF.alloc _ _ _, some ⟨w.heap.size, 0, none⟩, rfl, World.ownsRow_lit (base := B) (e := e) (size := size) w #[] 0 (Nat.le_trans hB hG.size) (by unfold maxLen; omega) (by simp)⟩
    unfold execOp
    simp [go_sem, run_underlying ht, sizeOf, typeInfo, hi]
end
end Go.Proofs.Ytgdcfhifiincaaa
