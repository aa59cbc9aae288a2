/-
  No cell of these rows narrows 'for every input' (looked for: loops, veiled, ifaces, maps, wideKeys, modest, calm, conditions, laid).
  DERIVED. THE GIVEN ROWS OF THIS SEAT. 9 by the template 'for every input the law returns true; each argument reads behind the call as it read before'; 0 by the template 'total and deterministic' (their statements: YtleammkpfknngaaTotals.lean).
  GIVEN WITH THE SEED: the statements are not yours to turn. If you find one false, say at which input.
  Laid BY PROGRAM, IN A SANDBOX (cutbox-rows.mjs): the forced cells as the released guide's own fill.sh prints them over the translation c90c6250b7208d89… (all of the seat's roots in one cut). By AI agents, Wed Nov 11 2026. No macro, syntax, notation, axiom, sorry.
-/
import Derived.Test.YtleammkpfknngaaChecked
import GoSem.Claim
import GoSem.ClaimJoined
import GoSem.ClaimMapViews
import Derived.JoinedTies
import Derived.KernelRfl
namespace Go.Proofs.Ytleammkpfknngaa
/- THE CELL 'sum', in the pinned program and in every row, IS THE sha256 OF THE DUMP (.gsa) THAT YtleammkpfknngaaProg.lean LOADS. Nothing in Lean hashes anything: it is a label: what it is worth is what the hold of that sum in a sandbox is worth. -/
noncomputable def Try.pinned : Pinned := { name := "ytleammkpfknngaa", sum := "c90c6250b7208d8975e56ff5ab4c49c6b6165da4f0cb5df5cf3cd2d707ad034c", checked := Try.checked }
namespace Rows
def none {H : Type} : Left H := { results := [], args := [] }

/-- 'laws.FnExactPacketValid': WHATEVER THE INPUT: true; the input reads as it did. -/
def fnExactPacketValidSpec : ChangeSpec := { name := "fnExactPacketValid", fn := fun _ => fun
  | [d] => { results := [.lit (.bool true)], args := [d] }
  | _ => none }
def fnExactPacketValidRow : OpenClaim := { program := "ytleammkpfknngaa", sum := "c90c6250b7208d8975e56ff5ab4c49c6b6165da4f0cb5df5cf3cd2d707ad034c", func := "loop.example/loadbalancer/laws.FnExactPacketValid", spec := "fnExactPacketValid", apart := false }
def FnExactPacketValidSaid : Prop := fnExactPacketValidRow.holds Try.pinned (OpenSpec.ofChange fnExactPacketValidSpec)

/-- ITS FALSE NEIGHBOUR: 'it returns false'. Refute it at one input. -/
def fnExactPacketValidWrong : ChangeSpec := { name := "fnExactPacketValid", fn := fun _ => fun
  | [d] => { results := [.lit (.bool false)], args := [d] }
  | _ => none }
def FnExactPacketValidWrongFalsely : Prop := fnExactPacketValidRow.holds Try.pinned (OpenSpec.ofChange fnExactPacketValidWrong)

/-- 'laws.FnPacketValid': WHATEVER THE INPUT: true; the input reads as it did. -/
def fnPacketValidSpec : ChangeSpec := { name := "fnPacketValid", fn := fun _ => fun
  | [d] => { results := [.lit (.bool true)], args := [d] }
  | _ => none }
def fnPacketValidRow : OpenClaim := { program := "ytleammkpfknngaa", sum := "c90c6250b7208d8975e56ff5ab4c49c6b6165da4f0cb5df5cf3cd2d707ad034c", func := "loop.example/loadbalancer/laws.FnPacketValid", spec := "fnPacketValid", apart := false }
def FnPacketValidSaid : Prop := fnPacketValidRow.holds Try.pinned (OpenSpec.ofChange fnPacketValidSpec)

/-- ITS FALSE NEIGHBOUR: 'it returns false'. Refute it at one input. -/
def fnPacketValidWrong : ChangeSpec := { name := "fnPacketValid", fn := fun _ => fun
  | [d] => { results := [.lit (.bool false)], args := [d] }
  | _ => none }
def FnPacketValidWrongFalsely : Prop := fnPacketValidRow.holds Try.pinned (OpenSpec.ofChange fnPacketValidWrong)

/-- 'laws.FnExactPutPacket': WHATEVER THE INPUT: true; the input reads as it did. -/
def fnExactPutPacketSpec : ChangeSpec := { name := "fnExactPutPacket", fn := fun _ => fun
  | [d] => { results := [.lit (.bool true)], args := [d] }
  | _ => none }
def fnExactPutPacketRow : OpenClaim := { program := "ytleammkpfknngaa", sum := "c90c6250b7208d8975e56ff5ab4c49c6b6165da4f0cb5df5cf3cd2d707ad034c", func := "loop.example/loadbalancer/laws.FnExactPutPacket", spec := "fnExactPutPacket", apart := false }
def FnExactPutPacketSaid : Prop := fnExactPutPacketRow.holds Try.pinned (OpenSpec.ofChange fnExactPutPacketSpec)

/-- ITS FALSE NEIGHBOUR: 'it returns false'. Refute it at one input. -/
def fnExactPutPacketWrong : ChangeSpec := { name := "fnExactPutPacket", fn := fun _ => fun
  | [d] => { results := [.lit (.bool false)], args := [d] }
  | _ => none }
def FnExactPutPacketWrongFalsely : Prop := fnExactPutPacketRow.holds Try.pinned (OpenSpec.ofChange fnExactPutPacketWrong)

/-- 'laws.FnPutPacket': WHATEVER THE INPUT: true; the input reads as it did. -/
def fnPutPacketSpec : ChangeSpec := { name := "fnPutPacket", fn := fun _ => fun
  | [d] => { results := [.lit (.bool true)], args := [d] }
  | _ => none }
def fnPutPacketRow : OpenClaim := { program := "ytleammkpfknngaa", sum := "c90c6250b7208d8975e56ff5ab4c49c6b6165da4f0cb5df5cf3cd2d707ad034c", func := "loop.example/loadbalancer/laws.FnPutPacket", spec := "fnPutPacket", apart := false }
def FnPutPacketSaid : Prop := fnPutPacketRow.holds Try.pinned (OpenSpec.ofChange fnPutPacketSpec)

/-- ITS FALSE NEIGHBOUR: 'it returns false'. Refute it at one input. -/
def fnPutPacketWrong : ChangeSpec := { name := "fnPutPacket", fn := fun _ => fun
  | [d] => { results := [.lit (.bool false)], args := [d] }
  | _ => none }
def FnPutPacketWrongFalsely : Prop := fnPutPacketRow.holds Try.pinned (OpenSpec.ofChange fnPutPacketWrong)

/-- 'laws.FnExactGetPacket': WHATEVER THE INPUT: true; the input reads as it did. -/
def fnExactGetPacketSpec : ChangeSpec := { name := "fnExactGetPacket", fn := fun _ => fun
  | [d] => { results := [.lit (.bool true)], args := [d] }
  | _ => none }
def fnExactGetPacketRow : OpenClaim := { program := "ytleammkpfknngaa", sum := "c90c6250b7208d8975e56ff5ab4c49c6b6165da4f0cb5df5cf3cd2d707ad034c", func := "loop.example/loadbalancer/laws.FnExactGetPacket", spec := "fnExactGetPacket", apart := false }
def FnExactGetPacketSaid : Prop := fnExactGetPacketRow.holds Try.pinned (OpenSpec.ofChange fnExactGetPacketSpec)

/-- ITS FALSE NEIGHBOUR: 'it returns false'. Refute it at one input. -/
def fnExactGetPacketWrong : ChangeSpec := { name := "fnExactGetPacket", fn := fun _ => fun
  | [d] => { results := [.lit (.bool false)], args := [d] }
  | _ => none }
def FnExactGetPacketWrongFalsely : Prop := fnExactGetPacketRow.holds Try.pinned (OpenSpec.ofChange fnExactGetPacketWrong)

/-- 'laws.FnGetPacket': WHATEVER THE INPUT: true; the input reads as it did. -/
def fnGetPacketSpec : ChangeSpec := { name := "fnGetPacket", fn := fun _ => fun
  | [d] => { results := [.lit (.bool true)], args := [d] }
  | _ => none }
def fnGetPacketRow : OpenClaim := { program := "ytleammkpfknngaa", sum := "c90c6250b7208d8975e56ff5ab4c49c6b6165da4f0cb5df5cf3cd2d707ad034c", func := "loop.example/loadbalancer/laws.FnGetPacket", spec := "fnGetPacket", apart := false }
def FnGetPacketSaid : Prop := fnGetPacketRow.holds Try.pinned (OpenSpec.ofChange fnGetPacketSpec)

/-- ITS FALSE NEIGHBOUR: 'it returns false'. Refute it at one input. -/
def fnGetPacketWrong : ChangeSpec := { name := "fnGetPacket", fn := fun _ => fun
  | [d] => { results := [.lit (.bool false)], args := [d] }
  | _ => none }
def FnGetPacketWrongFalsely : Prop := fnGetPacketRow.holds Try.pinned (OpenSpec.ofChange fnGetPacketWrong)

/-- 'laws.FnExactWrapPacket': WHATEVER THE INPUT: true; the input reads as it did. -/
def fnExactWrapPacketSpec : ChangeSpec := { name := "fnExactWrapPacket", fn := fun _ => fun
  | [d1, d2, d3] => { results := [.lit (.bool true)], args := [d1, d2, d3] }
  | _ => none }
def fnExactWrapPacketRow : OpenClaim := { program := "ytleammkpfknngaa", sum := "c90c6250b7208d8975e56ff5ab4c49c6b6165da4f0cb5df5cf3cd2d707ad034c", func := "loop.example/loadbalancer/laws.FnExactWrapPacket", spec := "fnExactWrapPacket", apart := false }
def FnExactWrapPacketSaid : Prop := fnExactWrapPacketRow.holds Try.pinned (OpenSpec.ofChange fnExactWrapPacketSpec)

/-- ITS FALSE NEIGHBOUR: 'it returns false'. Refute it at one input. -/
def fnExactWrapPacketWrong : ChangeSpec := { name := "fnExactWrapPacket", fn := fun _ => fun
  | [d1, d2, d3] => { results := [.lit (.bool false)], args := [d1, d2, d3] }
  | _ => none }
def FnExactWrapPacketWrongFalsely : Prop := fnExactWrapPacketRow.holds Try.pinned (OpenSpec.ofChange fnExactWrapPacketWrong)

/-- 'laws.FnExactUnwrapPacket': WHATEVER THE INPUT: true; the input reads as it did. -/
def fnExactUnwrapPacketSpec : ChangeSpec := { name := "fnExactUnwrapPacket", fn := fun _ => fun
  | [d1, d2] => { results := [.lit (.bool true)], args := [d1, d2] }
  | _ => none }
def fnExactUnwrapPacketRow : OpenClaim := { program := "ytleammkpfknngaa", sum := "c90c6250b7208d8975e56ff5ab4c49c6b6165da4f0cb5df5cf3cd2d707ad034c", func := "loop.example/loadbalancer/laws.FnExactUnwrapPacket", spec := "fnExactUnwrapPacket", apart := false }
def FnExactUnwrapPacketSaid : Prop := fnExactUnwrapPacketRow.holds Try.pinned (OpenSpec.ofChange fnExactUnwrapPacketSpec)

/-- ITS FALSE NEIGHBOUR: 'it returns false'. Refute it at one input. -/
def fnExactUnwrapPacketWrong : ChangeSpec := { name := "fnExactUnwrapPacket", fn := fun _ => fun
  | [d1, d2] => { results := [.lit (.bool false)], args := [d1, d2] }
  | _ => none }
def FnExactUnwrapPacketWrongFalsely : Prop := fnExactUnwrapPacketRow.holds Try.pinned (OpenSpec.ofChange fnExactUnwrapPacketWrong)

/-- 'laws.FnUnwrapPacket': WHATEVER THE INPUT: true; the input reads as it did. -/
def fnUnwrapPacketSpec : ChangeSpec := { name := "fnUnwrapPacket", fn := fun _ => fun
  | [d] => { results := [.lit (.bool true)], args := [d] }
  | _ => none }
def fnUnwrapPacketRow : OpenClaim := { program := "ytleammkpfknngaa", sum := "c90c6250b7208d8975e56ff5ab4c49c6b6165da4f0cb5df5cf3cd2d707ad034c", func := "loop.example/loadbalancer/laws.FnUnwrapPacket", spec := "fnUnwrapPacket", apart := false }
def FnUnwrapPacketSaid : Prop := fnUnwrapPacketRow.holds Try.pinned (OpenSpec.ofChange fnUnwrapPacketSpec)

/-- ITS FALSE NEIGHBOUR: 'it returns false'. Refute it at one input. -/
def fnUnwrapPacketWrong : ChangeSpec := { name := "fnUnwrapPacket", fn := fun _ => fun
  | [d] => { results := [.lit (.bool false)], args := [d] }
  | _ => none }
def FnUnwrapPacketWrongFalsely : Prop := fnUnwrapPacketRow.holds Try.pinned (OpenSpec.ofChange fnUnwrapPacketWrong)

/- THE SECOND FORM. 'bulk': how many values and letters a reading holds, each counted each time it is reached (what is shared counts as often as it is met; a slice's spare places count too). A statement '..UptoSaid' is the law's where the arguments, and the package variables that the reading takes, are together of bulk at most 1048576: NARROWER than '..Said'. Prove '..Said' where nothing that the law and all that it calls make is longer than what came in: it says more and counts as full. Else prove '..UptoSaid'. A law counts once. -/
mutual
def uptoBulk {H : Type} : DataW H → Nat
  | .lit (.string bytes) => bytes.length + 1
  | .lit _ => 1
  | .nil => 1
  | .ptr d => uptoBulk d + 1
  | .slice elems spare => uptoBulkAll elems + uptoBulkAll spare + 1
  | .agg parts => uptoBulkAll parts + 1
  | .iface _ d => uptoBulk d + 1
  | .map entries => uptoBulkEntries entries + 1
  | .held _ => 1
def uptoBulkAll {H : Type} : List (DataW H) → Nat
  | [] => 0
  | d :: r => uptoBulk d + uptoBulkAll r
def uptoBulkEntries {H : Type} : List (Lit × DataW H) → Nat
  | [] => 0
  | x :: r => uptoBulkEntry x + uptoBulkEntries r
def uptoBulkEntry {H : Type} : Lit × DataW H → Nat
  | (.string bytes, d) => bytes.length + uptoBulk d + 1
  | (_, d) => uptoBulk d + 1
 end
def uptoSmall : (H : Type) → List (DataW H) → Bool := fun _ ds => decide (uptoBulkAll ds ≤ 1048576)
def OpenSpec.upto (s : _root_.Go.ChangeSpec) : _root_.Go.OpenSpec := { _root_.Go.OpenSpec.ofChange s with cond := some uptoSmall }

/-- 'laws.FnExactPacketValid', WHERE WHAT IT READS IS OF BULK AT MOST 1048576: true; the input reads as it did. -/
def fnExactPacketValidUptoRow : OpenClaim := { program := "ytleammkpfknngaa", sum := "c90c6250b7208d8975e56ff5ab4c49c6b6165da4f0cb5df5cf3cd2d707ad034c", func := "loop.example/loadbalancer/laws.FnExactPacketValid", spec := "fnExactPacketValid", apart := false, narrowed := true }
def FnExactPacketValidUptoSaid : Prop := fnExactPacketValidUptoRow.holds Try.pinned (OpenSpec.upto fnExactPacketValidSpec)

/-- 'laws.FnPacketValid', WHERE WHAT IT READS IS OF BULK AT MOST 1048576: true; the input reads as it did. -/
def fnPacketValidUptoRow : OpenClaim := { program := "ytleammkpfknngaa", sum := "c90c6250b7208d8975e56ff5ab4c49c6b6165da4f0cb5df5cf3cd2d707ad034c", func := "loop.example/loadbalancer/laws.FnPacketValid", spec := "fnPacketValid", apart := false, narrowed := true }
def FnPacketValidUptoSaid : Prop := fnPacketValidUptoRow.holds Try.pinned (OpenSpec.upto fnPacketValidSpec)

/-- 'laws.FnExactPutPacket', WHERE WHAT IT READS IS OF BULK AT MOST 1048576: true; the input reads as it did. -/
def fnExactPutPacketUptoRow : OpenClaim := { program := "ytleammkpfknngaa", sum := "c90c6250b7208d8975e56ff5ab4c49c6b6165da4f0cb5df5cf3cd2d707ad034c", func := "loop.example/loadbalancer/laws.FnExactPutPacket", spec := "fnExactPutPacket", apart := false, narrowed := true }
def FnExactPutPacketUptoSaid : Prop := fnExactPutPacketUptoRow.holds Try.pinned (OpenSpec.upto fnExactPutPacketSpec)

/-- 'laws.FnPutPacket', WHERE WHAT IT READS IS OF BULK AT MOST 1048576: true; the input reads as it did. -/
def fnPutPacketUptoRow : OpenClaim := { program := "ytleammkpfknngaa", sum := "c90c6250b7208d8975e56ff5ab4c49c6b6165da4f0cb5df5cf3cd2d707ad034c", func := "loop.example/loadbalancer/laws.FnPutPacket", spec := "fnPutPacket", apart := false, narrowed := true }
def FnPutPacketUptoSaid : Prop := fnPutPacketUptoRow.holds Try.pinned (OpenSpec.upto fnPutPacketSpec)

/-- 'laws.FnExactGetPacket', WHERE WHAT IT READS IS OF BULK AT MOST 1048576: true; the input reads as it did. -/
def fnExactGetPacketUptoRow : OpenClaim := { program := "ytleammkpfknngaa", sum := "c90c6250b7208d8975e56ff5ab4c49c6b6165da4f0cb5df5cf3cd2d707ad034c", func := "loop.example/loadbalancer/laws.FnExactGetPacket", spec := "fnExactGetPacket", apart := false, narrowed := true }
def FnExactGetPacketUptoSaid : Prop := fnExactGetPacketUptoRow.holds Try.pinned (OpenSpec.upto fnExactGetPacketSpec)

/-- 'laws.FnGetPacket', WHERE WHAT IT READS IS OF BULK AT MOST 1048576: true; the input reads as it did. -/
def fnGetPacketUptoRow : OpenClaim := { program := "ytleammkpfknngaa", sum := "c90c6250b7208d8975e56ff5ab4c49c6b6165da4f0cb5df5cf3cd2d707ad034c", func := "loop.example/loadbalancer/laws.FnGetPacket", spec := "fnGetPacket", apart := false, narrowed := true }
def FnGetPacketUptoSaid : Prop := fnGetPacketUptoRow.holds Try.pinned (OpenSpec.upto fnGetPacketSpec)

/-- 'laws.FnExactWrapPacket', WHERE WHAT IT READS IS OF BULK AT MOST 1048576: true; the input reads as it did. -/
def fnExactWrapPacketUptoRow : OpenClaim := { program := "ytleammkpfknngaa", sum := "c90c6250b7208d8975e56ff5ab4c49c6b6165da4f0cb5df5cf3cd2d707ad034c", func := "loop.example/loadbalancer/laws.FnExactWrapPacket", spec := "fnExactWrapPacket", apart := false, narrowed := true }
def FnExactWrapPacketUptoSaid : Prop := fnExactWrapPacketUptoRow.holds Try.pinned (OpenSpec.upto fnExactWrapPacketSpec)

/-- 'laws.FnExactUnwrapPacket', WHERE WHAT IT READS IS OF BULK AT MOST 1048576: true; the input reads as it did. -/
def fnExactUnwrapPacketUptoRow : OpenClaim := { program := "ytleammkpfknngaa", sum := "c90c6250b7208d8975e56ff5ab4c49c6b6165da4f0cb5df5cf3cd2d707ad034c", func := "loop.example/loadbalancer/laws.FnExactUnwrapPacket", spec := "fnExactUnwrapPacket", apart := false, narrowed := true }
def FnExactUnwrapPacketUptoSaid : Prop := fnExactUnwrapPacketUptoRow.holds Try.pinned (OpenSpec.upto fnExactUnwrapPacketSpec)

/-- 'laws.FnUnwrapPacket', WHERE WHAT IT READS IS OF BULK AT MOST 1048576: true; the input reads as it did. -/
def fnUnwrapPacketUptoRow : OpenClaim := { program := "ytleammkpfknngaa", sum := "c90c6250b7208d8975e56ff5ab4c49c6b6165da4f0cb5df5cf3cd2d707ad034c", func := "loop.example/loadbalancer/laws.FnUnwrapPacket", spec := "fnUnwrapPacket", apart := false, narrowed := true }
def FnUnwrapPacketUptoSaid : Prop := fnUnwrapPacketUptoRow.holds Try.pinned (OpenSpec.upto fnUnwrapPacketSpec)

end Rows
end Go.Proofs.Ytleammkpfknngaa
