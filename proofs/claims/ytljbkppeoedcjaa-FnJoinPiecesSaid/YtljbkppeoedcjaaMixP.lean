/-
  Steps of XMix for pieces: a slice up to a place, a literal slice of one element, a piece put together.
-/
import Derived.Test.YtljbkppeoedcjaaMixB
import Derived.Test.YtljbkppeoedcjaaRowP
namespace Go.Proofs.Ytljbkppeoedcjaa
open Go.RowKit
set_option linter.unusedVariables false

/-- A slice of one's own, full. -/
def tFull1 (B : Nat) (e : TypeId) (size n : Nat) (xs : List Value) : VT := fun u w => ∃ A, u = .slice A n n ∧ w.ownsRow B e size (.slice A n n) n xs
theorem keep_full1 {B : Nat} {e : TypeId} {size n : Nat} {xs : List Value} : Keep (tFull1 B e size n xs) := by
  rintro v w w' hg ⟨A, rfl, h⟩
  exact ⟨A, rfl, New.own hg h⟩
/-- A piece of known numbers, its body its own. -/
def tPc3 (B : Nat) (a : Int) (m : Bool) (n : Nat) (xs : List Value) : VT := fun u w => ∃ A c, u = .agg #[.int .i64 a, .bool m, .slice A n c] ∧ n ≤ c ∧ c ≤ maxLen ∧ w.ownsRow B 5 1 (.slice A n c) n xs
theorem keep_pc3 {B : Nat} {a : Int} {m : Bool} {n : Nat} {xs : List Value} : Keep (tPc3 B a m n xs) := by
  rintro v w w' hg ⟨A, c, rfl, h1, h2, h⟩
  exact ⟨A, c, rfl, h1, h2, New.own hg h⟩
section
variable {P : Program} {ops : Array Oper} {Q : Exit → Act → World → Prop} {l : List (Nat × VT)} {W : World} {N i : Nat} {d : Nat} {ty t t2 : TypeId} {pos : String} {af : Array Edge} {x y z : Operand} {gd : Option (Nat × Bool)}
theorem m_cuth {A : Option Addr} {n c lo hi s : Nat} {k : Int} {xs : List Value} (hk : KeepL l) (hg : GOkM ops l gd) (hi' : elemSize P t = some s) (hx : OM l x (tLit (.slice A n c))) (hS : Sl W lo hi s A n xs) (hh : hi ≤ W.heap.size) (hnc : n ≤ c) (hc : c ≤ maxLen)
    (hy : OM l y (tLit (.int .i64 k))) (h0 : 0 ≤ k) (h1 : k ≤ n) (hd : l.lookup d = some (tSl lo s k.toNat (xs.take (k.toNat * s)))) :
    TStepG P ops Q (tsM l) (fun _ _ => True) (GX W) N i ⟨some d, .slice t x none (some y) none, ty, pos, af, gd⟩ :=
  m_slice hk hg hx none (some (.int .i64 k)) (fun o b w hm ho => ⟨rfl, congrArg some (hy o b w (hm y (by simp)) ho)⟩) rfl (fun u w hG hu => by
    obtain ⟨ht, hs⟩ := elem_under hi'
    subst hu
    have hS0 := New.sl (w := W) hG hS hh
    refine ⟨_, by rw [run_sliceAt_slice w t _ _ _ _ ht, run_slice_h w t A n c ht .i64 k h0 (by omega), hs w]; rfl, ?_⟩
    have hT := ((hS0.take (k := k.toNat) (by omega)).cut (k := 0) (cap := c) (Nat.zero_le _) (by omega)).more (Nat.le_refl _) (Nat.le_trans hh hG.size)
    simp only [Nat.sub_zero, Nat.zero_mul, List.drop_zero] at hT
    refine ⟨_, _, rfl, by omega, by omega, ?_⟩
    simpa using hT) hd
/-- append of a slice that is known, to a full row of one's own. -/
theorem m_appendl {e : TypeId} {ie : TypeInfo} {zv : Value} {B lo hi c size bytes n m : Nat} {A : Option Addr} {xs news : List Value} (hk : KeepL l) (hg : GOkM ops l gd) (ht : P.underlying t = some (.slice e)) (hi' : P.info? e = some ie) (hz : ie.zero = some zv) (hsize : ie.size = size) (hby : ie.bytes = bytes) (hzs : zv.cells.size = size) (hsz : 0 < size)
    (hx : OM l x (tFull1 B e size n xs)) (hy : OM l y (tLit (.slice A m c))) (hS : Sl W lo hi size A m news) (hh : hi ≤ W.heap.size) (h1 : ∀ u ∈ news, u.oneCell' = true) (h63 : n + m ≤ maxLen) (hbytes : (n + m) * bytes ≤ 140737488355328) (hB : B ≤ W.heap.size)
    (hd : l.lookup d = some (tOwn B e size (n + m) (xs ++ news))) :
    TStepG P ops Q (tsM l) (fun _ _ => True) (GX W) N i ⟨some d, .call { callee := .builtin .append, args := #[x, y], argTypes := #[t, t] }, ty, pos, af, gd⟩ :=
  m_gen hk hg (fun d' h => by cases h; exact hd) fun b w hG ho => by
    obtain ⟨A0, e1, own⟩ := hx _ b w (by simp [Op.operands, Call.operands]) ho
    have e2 : b.eval y = .slice A m c := hy _ b w (by simp [Op.operands, Call.operands]) ho
    obtain ⟨v', w', hrun, h2, h3⟩ := run_append_tight (P := P) w B t ty e ie zv size bytes ht hi' hz hsize hby hzs hsz A0 n xs own lo _ A m c news (New.sl (w := W) hG hS hh) h1 h63 hbytes (Nat.le_trans hB hG.size)
    refine ⟨v', w', ?_, h3, ?_⟩
    · unfold execOp
      simp only [resolve, invoke, builtin, Sem.run_bind, Sem.run_pure, Result.andThen_ok, List.map_toArray, List.map_cons, List.map_nil, e1, e2, hrun]
    · obtain ⟨A3, c3, rfl, q1, q2⟩ := own_is_slice h2
      exact ⟨A3, c3, rfl, q1, q2, h2⟩
/-- len of a slice that is known. -/
theorem m_len {A : Option Addr} {n c : Nat} {t e : TypeId} (hk : KeepL l) (hg : GOkM ops l gd) (ht : P.underlying t = some (.slice e)) (hx : OM l x (tLit (.slice A n c))) (hd : l.lookup d = some (tLit (.int .i64 n))) :
    TStepG P ops Q (tsM l) (fun _ _ => True) (GX W) N i ⟨some d, .call { callee := .builtin .len, args := #[x], argTypes := #[t] }, ty, pos, af, gd⟩ :=
  m_val hk hg (fun d' h => by cases h; exact hd) fun b w hG ho => by
    have e : b.eval x = .slice A n c := hx _ b w (by simp [Op.operands, Call.operands]) ho
    refine ⟨.int .i64 n, ?_, rfl⟩
    unfold execOp
    simp only [resolve, invoke, builtin, Sem.run_bind, Sem.run_pure, Result.andThen_ok, List.map_toArray, List.map_cons, List.map_nil, e]
    simp [Builtin.len_, Builtin.lenOf, run_underlying ht, go_sem]
/-- A literal slice of one element of one cell. -/
theorem m_row1 {e : TypeId} {ie : TypeInfo} {zv : Value} {B : Nat} {k : IntKind} {v : Int} {zk : Int} (hk : KeepL l) (hg : GOkM ops l gd) (ht : P.underlying t = some (.slice e)) (hi : P.info? e = some ie) (hz : ie.zero = some zv) (hzv : zv = .int k zk) (hsize : ie.size = 1) (hB : B ≤ W.heap.size)
    (hd : l.lookup d = some (tFull1 B e 1 1 [.int k v])) : TStepG P ops Q (tsM l) (fun _ _ => True) (GX W) N i ⟨some d, .buildSlice t 1 #[(0, .const (.int k v))], ty, pos, af, gd⟩ :=
  m_gen hk hg (fun d' h => by cases h; exact hd) fun b w hG ho => by
    refine ⟨.slice (some ⟨w.heap.size, 0, none⟩) 1 1, w.alloc (.cells #[.int k v] e), ?_, GrF.alloc _ _ _, some ⟨w.heap.size, 0, none⟩, rfl, World.ownsRow_lit (base := B) (e := e) (size := 1) w #[.int k v] 1 (Nat.le_trans hB hG.size) (by unfold maxLen; omega) (by simp)⟩
    unfold execOp
    subst hzv
    simp [go_sem, run_underlying ht, sizeOf, typeInfo, zeroValue, hi, hz, hsize]
end
end Go.Proofs.Ytljbkppeoedcjaa
