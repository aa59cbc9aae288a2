/-
  No cell of these rows narrows 'for every input' (looked for: loops, veiled, ifaces, maps, wideKeys, modest, calm, conditions, laid).
  DERIVED. THE GIVEN ROWS OF THIS SEAT. 4 by the template 'for every input the law returns true; each argument reads behind the call as it read before'; 0 by the template 'total and deterministic' (their statements: YtljbkppeoedcjaaTotals.lean).
  GIVEN WITH THE SEED: the statements are not yours to turn. If you find one false, say at which input.
  Laid BY PROGRAM, IN A SANDBOX (cutbox-rows.mjs): the forced cells as the released guide's own fill.sh prints them over the translation ea9baaa36d194d15… (all of the seat's roots in one cut). By AI agents, Wed Nov 11 2026. No macro, syntax, notation, axiom, sorry.
-/
import Derived.Test.YtljbkppeoedcjaaChecked
import GoSem.Claim
import GoSem.ClaimJoined
import GoSem.ClaimMapViews
import Derived.JoinedTies
import Derived.KernelRfl
namespace Go.Proofs.Ytljbkppeoedcjaa
/- THE CELL 'sum', in the pinned program and in every row, IS THE sha256 OF THE DUMP (.gsa) THAT YtljbkppeoedcjaaProg.lean LOADS. Nothing in Lean hashes anything: it is a label: what it is worth is what the hold of that sum in a sandbox is worth. -/
noncomputable def Try.pinned : Pinned := { name := "ytljbkppeoedcjaa", sum := "ea9baaa36d194d151a1ead02270d035328adb007d8ef478913c09724a0cf6a99", checked := Try.checked }
namespace Rows
def none {H : Type} : Left H := { results := [], args := [] }

/-- 'laws.FnExactSplitBody': WHATEVER THE INPUT: true; the input reads as it did. -/
def fnExactSplitBodySpec : ChangeSpec := { name := "fnExactSplitBody", fn := fun _ => fun
  | [d1, d2] => { results := [.lit (.bool true)], args := [d1, d2] }
  | _ => none }
def fnExactSplitBodyRow : OpenClaim := { program := "ytljbkppeoedcjaa", sum := "ea9baaa36d194d151a1ead02270d035328adb007d8ef478913c09724a0cf6a99", func := "loop.example/loadbalancer/laws.FnExactSplitBody", spec := "fnExactSplitBody", apart := false }
def FnExactSplitBodySaid : Prop := fnExactSplitBodyRow.holds Try.pinned (OpenSpec.ofChange fnExactSplitBodySpec)

/-- ITS FALSE NEIGHBOUR: 'it returns false'. Refute it at one input. -/
def fnExactSplitBodyWrong : ChangeSpec := { name := "fnExactSplitBody", fn := fun _ => fun
  | [d1, d2] => { results := [.lit (.bool false)], args := [d1, d2] }
  | _ => none }
def FnExactSplitBodyWrongFalsely : Prop := fnExactSplitBodyRow.holds Try.pinned (OpenSpec.ofChange fnExactSplitBodyWrong)

/-- 'laws.FnSplitBody': WHATEVER THE INPUT: true; the input reads as it did. -/
def fnSplitBodySpec : ChangeSpec := { name := "fnSplitBody", fn := fun _ => fun
  | [d] => { results := [.lit (.bool true)], args := [d] }
  | _ => none }
def fnSplitBodyRow : OpenClaim := { program := "ytljbkppeoedcjaa", sum := "ea9baaa36d194d151a1ead02270d035328adb007d8ef478913c09724a0cf6a99", func := "loop.example/loadbalancer/laws.FnSplitBody", spec := "fnSplitBody", apart := false }
def FnSplitBodySaid : Prop := fnSplitBodyRow.holds Try.pinned (OpenSpec.ofChange fnSplitBodySpec)

/-- ITS FALSE NEIGHBOUR: 'it returns false'. Refute it at one input. -/
def fnSplitBodyWrong : ChangeSpec := { name := "fnSplitBody", fn := fun _ => fun
  | [d] => { results := [.lit (.bool false)], args := [d] }
  | _ => none }
def FnSplitBodyWrongFalsely : Prop := fnSplitBodyRow.holds Try.pinned (OpenSpec.ofChange fnSplitBodyWrong)

/-- 'laws.FnExactJoinPieces': WHATEVER THE INPUT: true; the input reads as it did. -/
def fnExactJoinPiecesSpec : ChangeSpec := { name := "fnExactJoinPieces", fn := fun _ => fun
  | [d] => { results := [.lit (.bool true)], args := [d] }
  | _ => none }
def fnExactJoinPiecesRow : OpenClaim := { program := "ytljbkppeoedcjaa", sum := "ea9baaa36d194d151a1ead02270d035328adb007d8ef478913c09724a0cf6a99", func := "loop.example/loadbalancer/laws.FnExactJoinPieces", spec := "fnExactJoinPieces", apart := false }
def FnExactJoinPiecesSaid : Prop := fnExactJoinPiecesRow.holds Try.pinned (OpenSpec.ofChange fnExactJoinPiecesSpec)

/-- ITS FALSE NEIGHBOUR: 'it returns false'. Refute it at one input. -/
def fnExactJoinPiecesWrong : ChangeSpec := { name := "fnExactJoinPieces", fn := fun _ => fun
  | [d] => { results := [.lit (.bool false)], args := [d] }
  | _ => none }
def FnExactJoinPiecesWrongFalsely : Prop := fnExactJoinPiecesRow.holds Try.pinned (OpenSpec.ofChange fnExactJoinPiecesWrong)

/-- 'laws.FnJoinPieces': WHATEVER THE INPUT: true; the input reads as it did. -/
def fnJoinPiecesSpec : ChangeSpec := { name := "fnJoinPieces", fn := fun _ => fun
  | [d] => { results := [.lit (.bool true)], args := [d] }
  | _ => none }
def fnJoinPiecesRow : OpenClaim := { program := "ytljbkppeoedcjaa", sum := "ea9baaa36d194d151a1ead02270d035328adb007d8ef478913c09724a0cf6a99", func := "loop.example/loadbalancer/laws.FnJoinPieces", spec := "fnJoinPieces", apart := false }
def FnJoinPiecesSaid : Prop := fnJoinPiecesRow.holds Try.pinned (OpenSpec.ofChange fnJoinPiecesSpec)

/-- ITS FALSE NEIGHBOUR: 'it returns false'. Refute it at one input. -/
def fnJoinPiecesWrong : ChangeSpec := { name := "fnJoinPieces", fn := fun _ => fun
  | [d] => { results := [.lit (.bool false)], args := [d] }
  | _ => none }
def FnJoinPiecesWrongFalsely : Prop := fnJoinPiecesRow.holds Try.pinned (OpenSpec.ofChange fnJoinPiecesWrong)

/- THE SECOND FORM. 'bulk': how many values and letters a reading holds, each counted each time it is reached (what is shared counts as often as it is met; a slice's spare places count too). A statement '..UptoSaid' is the law's where the arguments, and the package variables that the reading takes, are together of bulk at most 1048576: NARROWER than '..Said'. Prove '..Said' where nothing that the law and all that it calls make is longer than what came in: it says more and counts as full. Else prove '..UptoSaid'. A law counts once. -/
mutual
def uptoBulk {H : Type} : DataW H → Nat
  | .lit (.string bytes) => bytes.length + 1
  | .lit _ => 1
  | .nil => 1
  | .ptr d => uptoBulk d + 1
  | .slice elems spare => uptoBulkAll elems + uptoBulkAll spare + 1
  | .agg parts => uptoBulkAll parts + 1
  | .iface _ d => uptoBulk d + 1
  | .map entries => uptoBulkEntries entries + 1
  | .held _ => 1
def uptoBulkAll {H : Type} : List (DataW H) → Nat
  | [] => 0
  | d :: r => uptoBulk d + uptoBulkAll r
def uptoBulkEntries {H : Type} : List (Lit × DataW H) → Nat
  | [] => 0
  | x :: r => uptoBulkEntry x + uptoBulkEntries r
def uptoBulkEntry {H : Type} : Lit × DataW H → Nat
  | (.string bytes, d) => bytes.length + uptoBulk d + 1
  | (_, d) => uptoBulk d + 1
 end
def uptoSmall : (H : Type) → List (DataW H) → Bool := fun _ ds => decide (uptoBulkAll ds ≤ 1048576)
def OpenSpec.upto (s : _root_.Go.ChangeSpec) : _root_.Go.OpenSpec := { _root_.Go.OpenSpec.ofChange s with cond := some uptoSmall }

/-- 'laws.FnExactSplitBody', WHERE WHAT IT READS IS OF BULK AT MOST 1048576: true; the input reads as it did. -/
def fnExactSplitBodyUptoRow : OpenClaim := { program := "ytljbkppeoedcjaa", sum := "ea9baaa36d194d151a1ead02270d035328adb007d8ef478913c09724a0cf6a99", func := "loop.example/loadbalancer/laws.FnExactSplitBody", spec := "fnExactSplitBody", apart := false, narrowed := true }
def FnExactSplitBodyUptoSaid : Prop := fnExactSplitBodyUptoRow.holds Try.pinned (OpenSpec.upto fnExactSplitBodySpec)

/-- 'laws.FnSplitBody', WHERE WHAT IT READS IS OF BULK AT MOST 1048576: true; the input reads as it did. -/
def fnSplitBodyUptoRow : OpenClaim := { program := "ytljbkppeoedcjaa", sum := "ea9baaa36d194d151a1ead02270d035328adb007d8ef478913c09724a0cf6a99", func := "loop.example/loadbalancer/laws.FnSplitBody", spec := "fnSplitBody", apart := false, narrowed := true }
def FnSplitBodyUptoSaid : Prop := fnSplitBodyUptoRow.holds Try.pinned (OpenSpec.upto fnSplitBodySpec)

/-- 'laws.FnExactJoinPieces', WHERE WHAT IT READS IS OF BULK AT MOST 1048576: true; the input reads as it did. -/
def fnExactJoinPiecesUptoRow : OpenClaim := { program := "ytljbkppeoedcjaa", sum := "ea9baaa36d194d151a1ead02270d035328adb007d8ef478913c09724a0cf6a99", func := "loop.example/loadbalancer/laws.FnExactJoinPieces", spec := "fnExactJoinPieces", apart := false, narrowed := true }
def FnExactJoinPiecesUptoSaid : Prop := fnExactJoinPiecesUptoRow.holds Try.pinned (OpenSpec.upto fnExactJoinPiecesSpec)

/-- 'laws.FnJoinPieces', WHERE WHAT IT READS IS OF BULK AT MOST 1048576: true; the input reads as it did. -/
def fnJoinPiecesUptoRow : OpenClaim := { program := "ytljbkppeoedcjaa", sum := "ea9baaa36d194d151a1ead02270d035328adb007d8ef478913c09724a0cf6a99", func := "loop.example/loadbalancer/laws.FnJoinPieces", spec := "fnJoinPieces", apart := false, narrowed := true }
def FnJoinPiecesUptoSaid : Prop := fnJoinPiecesUptoRow.holds Try.pinned (OpenSpec.upto fnJoinPiecesSpec)

end Rows
end Go.Proofs.Ytljbkppeoedcjaa
