/-
  No cell of these rows narrows 'for every input' (looked for: loops, veiled, ifaces, maps, wideKeys, modest, calm, conditions, laid).
  DERIVED. THE GIVEN ROWS OF THIS SEAT. 12 by the template 'for every input the law returns true; each argument reads behind the call as it read before'; 0 by the template 'total and deterministic' (their statements: YtjiebaidjflkjaaTotals.lean).
  GIVEN WITH THE SEED: the statements are not yours to turn. If you find one false, say at which input.
  Laid BY PROGRAM, IN A SANDBOX (cutbox-rows.mjs): the forced cells as the released guide's own fill.sh prints them over the translation c365be891a823bda… (all of the seat's roots in one cut). By AI agents, Wed Nov 11 2026. No macro, syntax, notation, axiom, sorry.
-/
import Derived.Test.YtjiebaidjflkjaaChecked
import GoSem.Claim
import GoSem.ClaimJoined
import GoSem.ClaimMapViews
import Derived.JoinedTies
import Derived.KernelRfl
namespace Go.Proofs.Ytjiebaidjflkjaa
/- THE CELL 'sum', in the pinned program and in every row, IS THE sha256 OF THE DUMP (.gsa) THAT YtjiebaidjflkjaaProg.lean LOADS. Nothing in Lean hashes anything: it is a label: what it is worth is what the hold of that sum in a sandbox is worth. -/
noncomputable def Try.pinned : Pinned := { name := "ytjiebaidjflkjaa", sum := "c365be891a823bda7bde3233f3486af3559aab92227211d89b505c5f84c35e58", checked := Try.checked }
namespace Rows
def none {H : Type} : Left H := { results := [], args := [] }

/-- 'laws.FnExactPathValid': WHATEVER THE INPUT: true; the input reads as it did. -/
def fnExactPathValidSpec : ChangeSpec := { name := "fnExactPathValid", fn := fun _ => fun
  | [d] => { results := [.lit (.bool true)], args := [d] }
  | _ => none }
def fnExactPathValidRow : OpenClaim := { program := "ytjiebaidjflkjaa", sum := "c365be891a823bda7bde3233f3486af3559aab92227211d89b505c5f84c35e58", func := "loop.example/loadbalancer/laws.FnExactPathValid", spec := "fnExactPathValid", apart := false }
def FnExactPathValidSaid : Prop := fnExactPathValidRow.holds Try.pinned (OpenSpec.ofChange fnExactPathValidSpec)

/-- ITS FALSE NEIGHBOUR: 'it returns false'. Refute it at one input. -/
def fnExactPathValidWrong : ChangeSpec := { name := "fnExactPathValid", fn := fun _ => fun
  | [d] => { results := [.lit (.bool false)], args := [d] }
  | _ => none }
def FnExactPathValidWrongFalsely : Prop := fnExactPathValidRow.holds Try.pinned (OpenSpec.ofChange fnExactPathValidWrong)

/-- 'laws.FnPathValid': WHATEVER THE INPUT: true; the input reads as it did. -/
def fnPathValidSpec : ChangeSpec := { name := "fnPathValid", fn := fun _ => fun
  | [d] => { results := [.lit (.bool true)], args := [d] }
  | _ => none }
def fnPathValidRow : OpenClaim := { program := "ytjiebaidjflkjaa", sum := "c365be891a823bda7bde3233f3486af3559aab92227211d89b505c5f84c35e58", func := "loop.example/loadbalancer/laws.FnPathValid", spec := "fnPathValid", apart := false }
def FnPathValidSaid : Prop := fnPathValidRow.holds Try.pinned (OpenSpec.ofChange fnPathValidSpec)

/-- ITS FALSE NEIGHBOUR: 'it returns false'. Refute it at one input. -/
def fnPathValidWrong : ChangeSpec := { name := "fnPathValid", fn := fun _ => fun
  | [d] => { results := [.lit (.bool false)], args := [d] }
  | _ => none }
def FnPathValidWrongFalsely : Prop := fnPathValidRow.holds Try.pinned (OpenSpec.ofChange fnPathValidWrong)

/-- 'laws.FnExactSendPath': WHATEVER THE INPUT: true; the input reads as it did. -/
def fnExactSendPathSpec : ChangeSpec := { name := "fnExactSendPath", fn := fun _ => fun
  | [d1, d2] => { results := [.lit (.bool true)], args := [d1, d2] }
  | _ => none }
def fnExactSendPathRow : OpenClaim := { program := "ytjiebaidjflkjaa", sum := "c365be891a823bda7bde3233f3486af3559aab92227211d89b505c5f84c35e58", func := "loop.example/loadbalancer/laws.FnExactSendPath", spec := "fnExactSendPath", apart := false }
def FnExactSendPathSaid : Prop := fnExactSendPathRow.holds Try.pinned (OpenSpec.ofChange fnExactSendPathSpec)

/-- ITS FALSE NEIGHBOUR: 'it returns false'. Refute it at one input. -/
def fnExactSendPathWrong : ChangeSpec := { name := "fnExactSendPath", fn := fun _ => fun
  | [d1, d2] => { results := [.lit (.bool false)], args := [d1, d2] }
  | _ => none }
def FnExactSendPathWrongFalsely : Prop := fnExactSendPathRow.holds Try.pinned (OpenSpec.ofChange fnExactSendPathWrong)

/-- 'laws.FnSendPath': WHATEVER THE INPUT: true; the input reads as it did. -/
def fnSendPathSpec : ChangeSpec := { name := "fnSendPath", fn := fun _ => fun
  | [d] => { results := [.lit (.bool true)], args := [d] }
  | _ => none }
def fnSendPathRow : OpenClaim := { program := "ytjiebaidjflkjaa", sum := "c365be891a823bda7bde3233f3486af3559aab92227211d89b505c5f84c35e58", func := "loop.example/loadbalancer/laws.FnSendPath", spec := "fnSendPath", apart := false }
def FnSendPathSaid : Prop := fnSendPathRow.holds Try.pinned (OpenSpec.ofChange fnSendPathSpec)

/-- ITS FALSE NEIGHBOUR: 'it returns false'. Refute it at one input. -/
def fnSendPathWrong : ChangeSpec := { name := "fnSendPath", fn := fun _ => fun
  | [d] => { results := [.lit (.bool false)], args := [d] }
  | _ => none }
def FnSendPathWrongFalsely : Prop := fnSendPathRow.holds Try.pinned (OpenSpec.ofChange fnSendPathWrong)

/-- 'laws.FnExactFindPathSize': WHATEVER THE INPUT: true; the input reads as it did. -/
def fnExactFindPathSizeSpec : ChangeSpec := { name := "fnExactFindPathSize", fn := fun _ => fun
  | [d1, d2] => { results := [.lit (.bool true)], args := [d1, d2] }
  | _ => none }
def fnExactFindPathSizeRow : OpenClaim := { program := "ytjiebaidjflkjaa", sum := "c365be891a823bda7bde3233f3486af3559aab92227211d89b505c5f84c35e58", func := "loop.example/loadbalancer/laws.FnExactFindPathSize", spec := "fnExactFindPathSize", apart := false }
def FnExactFindPathSizeSaid : Prop := fnExactFindPathSizeRow.holds Try.pinned (OpenSpec.ofChange fnExactFindPathSizeSpec)

/-- ITS FALSE NEIGHBOUR: 'it returns false'. Refute it at one input. -/
def fnExactFindPathSizeWrong : ChangeSpec := { name := "fnExactFindPathSize", fn := fun _ => fun
  | [d1, d2] => { results := [.lit (.bool false)], args := [d1, d2] }
  | _ => none }
def FnExactFindPathSizeWrongFalsely : Prop := fnExactFindPathSizeRow.holds Try.pinned (OpenSpec.ofChange fnExactFindPathSizeWrong)

/-- 'laws.FnFindPathSize': WHATEVER THE INPUT: true; the input reads as it did. -/
def fnFindPathSizeSpec : ChangeSpec := { name := "fnFindPathSize", fn := fun _ => fun
  | [d] => { results := [.lit (.bool true)], args := [d] }
  | _ => none }
def fnFindPathSizeRow : OpenClaim := { program := "ytjiebaidjflkjaa", sum := "c365be891a823bda7bde3233f3486af3559aab92227211d89b505c5f84c35e58", func := "loop.example/loadbalancer/laws.FnFindPathSize", spec := "fnFindPathSize", apart := false }
def FnFindPathSizeSaid : Prop := fnFindPathSizeRow.holds Try.pinned (OpenSpec.ofChange fnFindPathSizeSpec)

/-- ITS FALSE NEIGHBOUR: 'it returns false'. Refute it at one input. -/
def fnFindPathSizeWrong : ChangeSpec := { name := "fnFindPathSize", fn := fun _ => fun
  | [d] => { results := [.lit (.bool false)], args := [d] }
  | _ => none }
def FnFindPathSizeWrongFalsely : Prop := fnFindPathSizeRow.holds Try.pinned (OpenSpec.ofChange fnFindPathSizeWrong)

/-- 'laws.FnExactTakeTokens': WHATEVER THE INPUT: true; the input reads as it did. -/
def fnExactTakeTokensSpec : ChangeSpec := { name := "fnExactTakeTokens", fn := fun _ => fun
  | [d1, d2, d3] => { results := [.lit (.bool true)], args := [d1, d2, d3] }
  | _ => none }
def fnExactTakeTokensRow : OpenClaim := { program := "ytjiebaidjflkjaa", sum := "c365be891a823bda7bde3233f3486af3559aab92227211d89b505c5f84c35e58", func := "loop.example/loadbalancer/laws.FnExactTakeTokens", spec := "fnExactTakeTokens", apart := false }
def FnExactTakeTokensSaid : Prop := fnExactTakeTokensRow.holds Try.pinned (OpenSpec.ofChange fnExactTakeTokensSpec)

/-- ITS FALSE NEIGHBOUR: 'it returns false'. Refute it at one input. -/
def fnExactTakeTokensWrong : ChangeSpec := { name := "fnExactTakeTokens", fn := fun _ => fun
  | [d1, d2, d3] => { results := [.lit (.bool false)], args := [d1, d2, d3] }
  | _ => none }
def FnExactTakeTokensWrongFalsely : Prop := fnExactTakeTokensRow.holds Try.pinned (OpenSpec.ofChange fnExactTakeTokensWrong)

/-- 'laws.FnTakeTokens': WHATEVER THE INPUT: true; the input reads as it did. -/
def fnTakeTokensSpec : ChangeSpec := { name := "fnTakeTokens", fn := fun _ => fun
  | [d] => { results := [.lit (.bool true)], args := [d] }
  | _ => none }
def fnTakeTokensRow : OpenClaim := { program := "ytjiebaidjflkjaa", sum := "c365be891a823bda7bde3233f3486af3559aab92227211d89b505c5f84c35e58", func := "loop.example/loadbalancer/laws.FnTakeTokens", spec := "fnTakeTokens", apart := false }
def FnTakeTokensSaid : Prop := fnTakeTokensRow.holds Try.pinned (OpenSpec.ofChange fnTakeTokensSpec)

/-- ITS FALSE NEIGHBOUR: 'it returns false'. Refute it at one input. -/
def fnTakeTokensWrong : ChangeSpec := { name := "fnTakeTokens", fn := fun _ => fun
  | [d] => { results := [.lit (.bool false)], args := [d] }
  | _ => none }
def FnTakeTokensWrongFalsely : Prop := fnTakeTokensRow.holds Try.pinned (OpenSpec.ofChange fnTakeTokensWrong)

/-- 'laws.FnBucketWait': WHATEVER THE INPUT: true; the input reads as it did. -/
def fnBucketWaitSpec : ChangeSpec := { name := "fnBucketWait", fn := fun _ => fun
  | [d] => { results := [.lit (.bool true)], args := [d] }
  | _ => none }
def fnBucketWaitRow : OpenClaim := { program := "ytjiebaidjflkjaa", sum := "c365be891a823bda7bde3233f3486af3559aab92227211d89b505c5f84c35e58", func := "loop.example/loadbalancer/laws.FnBucketWait", spec := "fnBucketWait", apart := false }
def FnBucketWaitSaid : Prop := fnBucketWaitRow.holds Try.pinned (OpenSpec.ofChange fnBucketWaitSpec)

/-- ITS FALSE NEIGHBOUR: 'it returns false'. Refute it at one input. -/
def fnBucketWaitWrong : ChangeSpec := { name := "fnBucketWait", fn := fun _ => fun
  | [d] => { results := [.lit (.bool false)], args := [d] }
  | _ => none }
def FnBucketWaitWrongFalsely : Prop := fnBucketWaitRow.holds Try.pinned (OpenSpec.ofChange fnBucketWaitWrong)

/-- 'laws.FnExactGivenTokens': WHATEVER THE INPUT: true; the input reads as it did. -/
def fnExactGivenTokensSpec : ChangeSpec := { name := "fnExactGivenTokens", fn := fun _ => fun
  | [d1, d2, d3] => { results := [.lit (.bool true)], args := [d1, d2, d3] }
  | _ => none }
def fnExactGivenTokensRow : OpenClaim := { program := "ytjiebaidjflkjaa", sum := "c365be891a823bda7bde3233f3486af3559aab92227211d89b505c5f84c35e58", func := "loop.example/loadbalancer/laws.FnExactGivenTokens", spec := "fnExactGivenTokens", apart := false }
def FnExactGivenTokensSaid : Prop := fnExactGivenTokensRow.holds Try.pinned (OpenSpec.ofChange fnExactGivenTokensSpec)

/-- ITS FALSE NEIGHBOUR: 'it returns false'. Refute it at one input. -/
def fnExactGivenTokensWrong : ChangeSpec := { name := "fnExactGivenTokens", fn := fun _ => fun
  | [d1, d2, d3] => { results := [.lit (.bool false)], args := [d1, d2, d3] }
  | _ => none }
def FnExactGivenTokensWrongFalsely : Prop := fnExactGivenTokensRow.holds Try.pinned (OpenSpec.ofChange fnExactGivenTokensWrong)

/-- 'laws.FnGivenTokens': WHATEVER THE INPUT: true; the input reads as it did. -/
def fnGivenTokensSpec : ChangeSpec := { name := "fnGivenTokens", fn := fun _ => fun
  | [d] => { results := [.lit (.bool true)], args := [d] }
  | _ => none }
def fnGivenTokensRow : OpenClaim := { program := "ytjiebaidjflkjaa", sum := "c365be891a823bda7bde3233f3486af3559aab92227211d89b505c5f84c35e58", func := "loop.example/loadbalancer/laws.FnGivenTokens", spec := "fnGivenTokens", apart := false }
def FnGivenTokensSaid : Prop := fnGivenTokensRow.holds Try.pinned (OpenSpec.ofChange fnGivenTokensSpec)

/-- ITS FALSE NEIGHBOUR: 'it returns false'. Refute it at one input. -/
def fnGivenTokensWrong : ChangeSpec := { name := "fnGivenTokens", fn := fun _ => fun
  | [d] => { results := [.lit (.bool false)], args := [d] }
  | _ => none }
def FnGivenTokensWrongFalsely : Prop := fnGivenTokensRow.holds Try.pinned (OpenSpec.ofChange fnGivenTokensWrong)

/-- 'laws.FnEventsValid': WHATEVER THE INPUT: true; the input reads as it did. -/
def fnEventsValidSpec : ChangeSpec := { name := "fnEventsValid", fn := fun _ => fun
  | [d] => { results := [.lit (.bool true)], args := [d] }
  | _ => none }
def fnEventsValidRow : OpenClaim := { program := "ytjiebaidjflkjaa", sum := "c365be891a823bda7bde3233f3486af3559aab92227211d89b505c5f84c35e58", func := "loop.example/loadbalancer/laws.FnEventsValid", spec := "fnEventsValid", apart := false }
def FnEventsValidSaid : Prop := fnEventsValidRow.holds Try.pinned (OpenSpec.ofChange fnEventsValidSpec)

/-- ITS FALSE NEIGHBOUR: 'it returns false'. Refute it at one input. -/
def fnEventsValidWrong : ChangeSpec := { name := "fnEventsValid", fn := fun _ => fun
  | [d] => { results := [.lit (.bool false)], args := [d] }
  | _ => none }
def FnEventsValidWrongFalsely : Prop := fnEventsValidRow.holds Try.pinned (OpenSpec.ofChange fnEventsValidWrong)

/- THE SECOND FORM. 'bulk': how many values and letters a reading holds, each counted each time it is reached (what is shared counts as often as it is met; a slice's spare places count too). A statement '..UptoSaid' is the law's where the arguments, and the package variables that the reading takes, are together of bulk at most 1048576: NARROWER than '..Said'. Prove '..Said' where nothing that the law and all that it calls make is longer than what came in: it says more and counts as full. Else prove '..UptoSaid'. A law counts once. -/
mutual
def uptoBulk {H : Type} : DataW H → Nat
  | .lit (.string bytes) => bytes.length + 1
  | .lit _ => 1
  | .nil => 1
  | .ptr d => uptoBulk d + 1
  | .slice elems spare => uptoBulkAll elems + uptoBulkAll spare + 1
  | .agg parts => uptoBulkAll parts + 1
  | .iface _ d => uptoBulk d + 1
  | .map entries => uptoBulkEntries entries + 1
  | .held _ => 1
def uptoBulkAll {H : Type} : List (DataW H) → Nat
  | [] => 0
  | d :: r => uptoBulk d + uptoBulkAll r
def uptoBulkEntries {H : Type} : List (Lit × DataW H) → Nat
  | [] => 0
  | x :: r => uptoBulkEntry x + uptoBulkEntries r
def uptoBulkEntry {H : Type} : Lit × DataW H → Nat
  | (.string bytes, d) => bytes.length + uptoBulk d + 1
  | (_, d) => uptoBulk d + 1
 end
def uptoSmall : (H : Type) → List (DataW H) → Bool := fun _ ds => decide (uptoBulkAll ds ≤ 1048576)
def OpenSpec.upto (s : _root_.Go.ChangeSpec) : _root_.Go.OpenSpec := { _root_.Go.OpenSpec.ofChange s with cond := some uptoSmall }

/-- 'laws.FnExactPathValid', WHERE WHAT IT READS IS OF BULK AT MOST 1048576: true; the input reads as it did. -/
def fnExactPathValidUptoRow : OpenClaim := { program := "ytjiebaidjflkjaa", sum := "c365be891a823bda7bde3233f3486af3559aab92227211d89b505c5f84c35e58", func := "loop.example/loadbalancer/laws.FnExactPathValid", spec := "fnExactPathValid", apart := false, narrowed := true }
def FnExactPathValidUptoSaid : Prop := fnExactPathValidUptoRow.holds Try.pinned (OpenSpec.upto fnExactPathValidSpec)

/-- 'laws.FnPathValid', WHERE WHAT IT READS IS OF BULK AT MOST 1048576: true; the input reads as it did. -/
def fnPathValidUptoRow : OpenClaim := { program := "ytjiebaidjflkjaa", sum := "c365be891a823bda7bde3233f3486af3559aab92227211d89b505c5f84c35e58", func := "loop.example/loadbalancer/laws.FnPathValid", spec := "fnPathValid", apart := false, narrowed := true }
def FnPathValidUptoSaid : Prop := fnPathValidUptoRow.holds Try.pinned (OpenSpec.upto fnPathValidSpec)

/-- 'laws.FnExactSendPath', WHERE WHAT IT READS IS OF BULK AT MOST 1048576: true; the input reads as it did. -/
def fnExactSendPathUptoRow : OpenClaim := { program := "ytjiebaidjflkjaa", sum := "c365be891a823bda7bde3233f3486af3559aab92227211d89b505c5f84c35e58", func := "loop.example/loadbalancer/laws.FnExactSendPath", spec := "fnExactSendPath", apart := false, narrowed := true }
def FnExactSendPathUptoSaid : Prop := fnExactSendPathUptoRow.holds Try.pinned (OpenSpec.upto fnExactSendPathSpec)

/-- 'laws.FnSendPath', WHERE WHAT IT READS IS OF BULK AT MOST 1048576: true; the input reads as it did. -/
def fnSendPathUptoRow : OpenClaim := { program := "ytjiebaidjflkjaa", sum := "c365be891a823bda7bde3233f3486af3559aab92227211d89b505c5f84c35e58", func := "loop.example/loadbalancer/laws.FnSendPath", spec := "fnSendPath", apart := false, narrowed := true }
def FnSendPathUptoSaid : Prop := fnSendPathUptoRow.holds Try.pinned (OpenSpec.upto fnSendPathSpec)

/-- 'laws.FnExactFindPathSize', WHERE WHAT IT READS IS OF BULK AT MOST 1048576: true; the input reads as it did. -/
def fnExactFindPathSizeUptoRow : OpenClaim := { program := "ytjiebaidjflkjaa", sum := "c365be891a823bda7bde3233f3486af3559aab92227211d89b505c5f84c35e58", func := "loop.example/loadbalancer/laws.FnExactFindPathSize", spec := "fnExactFindPathSize", apart := false, narrowed := true }
def FnExactFindPathSizeUptoSaid : Prop := fnExactFindPathSizeUptoRow.holds Try.pinned (OpenSpec.upto fnExactFindPathSizeSpec)

/-- 'laws.FnFindPathSize', WHERE WHAT IT READS IS OF BULK AT MOST 1048576: true; the input reads as it did. -/
def fnFindPathSizeUptoRow : OpenClaim := { program := "ytjiebaidjflkjaa", sum := "c365be891a823bda7bde3233f3486af3559aab92227211d89b505c5f84c35e58", func := "loop.example/loadbalancer/laws.FnFindPathSize", spec := "fnFindPathSize", apart := false, narrowed := true }
def FnFindPathSizeUptoSaid : Prop := fnFindPathSizeUptoRow.holds Try.pinned (OpenSpec.upto fnFindPathSizeSpec)

/-- 'laws.FnExactTakeTokens', WHERE WHAT IT READS IS OF BULK AT MOST 1048576: true; the input reads as it did. -/
def fnExactTakeTokensUptoRow : OpenClaim := { program := "ytjiebaidjflkjaa", sum := "c365be891a823bda7bde3233f3486af3559aab92227211d89b505c5f84c35e58", func := "loop.example/loadbalancer/laws.FnExactTakeTokens", spec := "fnExactTakeTokens", apart := false, narrowed := true }
def FnExactTakeTokensUptoSaid : Prop := fnExactTakeTokensUptoRow.holds Try.pinned (OpenSpec.upto fnExactTakeTokensSpec)

/-- 'laws.FnTakeTokens', WHERE WHAT IT READS IS OF BULK AT MOST 1048576: true; the input reads as it did. -/
def fnTakeTokensUptoRow : OpenClaim := { program := "ytjiebaidjflkjaa", sum := "c365be891a823bda7bde3233f3486af3559aab92227211d89b505c5f84c35e58", func := "loop.example/loadbalancer/laws.FnTakeTokens", spec := "fnTakeTokens", apart := false, narrowed := true }
def FnTakeTokensUptoSaid : Prop := fnTakeTokensUptoRow.holds Try.pinned (OpenSpec.upto fnTakeTokensSpec)

/-- 'laws.FnBucketWait', WHERE WHAT IT READS IS OF BULK AT MOST 1048576: true; the input reads as it did. -/
def fnBucketWaitUptoRow : OpenClaim := { program := "ytjiebaidjflkjaa", sum := "c365be891a823bda7bde3233f3486af3559aab92227211d89b505c5f84c35e58", func := "loop.example/loadbalancer/laws.FnBucketWait", spec := "fnBucketWait", apart := false, narrowed := true }
def FnBucketWaitUptoSaid : Prop := fnBucketWaitUptoRow.holds Try.pinned (OpenSpec.upto fnBucketWaitSpec)

/-- 'laws.FnExactGivenTokens', WHERE WHAT IT READS IS OF BULK AT MOST 1048576: true; the input reads as it did. -/
def fnExactGivenTokensUptoRow : OpenClaim := { program := "ytjiebaidjflkjaa", sum := "c365be891a823bda7bde3233f3486af3559aab92227211d89b505c5f84c35e58", func := "loop.example/loadbalancer/laws.FnExactGivenTokens", spec := "fnExactGivenTokens", apart := false, narrowed := true }
def FnExactGivenTokensUptoSaid : Prop := fnExactGivenTokensUptoRow.holds Try.pinned (OpenSpec.upto fnExactGivenTokensSpec)

/-- 'laws.FnGivenTokens', WHERE WHAT IT READS IS OF BULK AT MOST 1048576: true; the input reads as it did. -/
def fnGivenTokensUptoRow : OpenClaim := { program := "ytjiebaidjflkjaa", sum := "c365be891a823bda7bde3233f3486af3559aab92227211d89b505c5f84c35e58", func := "loop.example/loadbalancer/laws.FnGivenTokens", spec := "fnGivenTokens", apart := false, narrowed := true }
def FnGivenTokensUptoSaid : Prop := fnGivenTokensUptoRow.holds Try.pinned (OpenSpec.upto fnGivenTokensSpec)

/-- 'laws.FnEventsValid', WHERE WHAT IT READS IS OF BULK AT MOST 1048576: true; the input reads as it did. -/
def fnEventsValidUptoRow : OpenClaim := { program := "ytjiebaidjflkjaa", sum := "c365be891a823bda7bde3233f3486af3559aab92227211d89b505c5f84c35e58", func := "loop.example/loadbalancer/laws.FnEventsValid", spec := "fnEventsValid", apart := false, narrowed := true }
def FnEventsValidUptoSaid : Prop := fnEventsValidUptoRow.holds Try.pinned (OpenSpec.upto fnEventsValidSpec)

end Rows
end Go.Proofs.Ytjiebaidjflkjaa
