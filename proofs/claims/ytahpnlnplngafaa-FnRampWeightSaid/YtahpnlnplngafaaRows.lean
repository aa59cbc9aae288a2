/-
  No cell of these rows narrows 'for every input' (looked for: loops, veiled, ifaces, maps, wideKeys, modest, calm, conditions, laid).
  DERIVED. THE GIVEN ROWS OF THIS SEAT. 12 by the template 'for every input the law returns true; each argument reads behind the call as it read before'; 0 by the template 'total and deterministic' (their statements: YtahpnlnplngafaaTotals.lean).
  GIVEN WITH THE SEED: the statements are not yours to turn. If you find one false, say at which input.
  Laid BY PROGRAM, IN A SANDBOX (cutbox-rows.mjs): the forced cells as the released guide's own fill.sh prints them over the translation 6533d9e09570814c… (all of the seat's roots in one cut). By AI agents, Wed Nov 11 2026. No macro, syntax, notation, axiom, sorry.
-/
import Derived.Test.YtahpnlnplngafaaChecked
import GoSem.Claim
import GoSem.ClaimJoined
import GoSem.ClaimMapViews
import Derived.JoinedTies
import Derived.KernelRfl
namespace Go.Proofs.Ytahpnlnplngafaa
/- THE CELL 'sum', in the pinned program and in every row, IS THE sha256 OF THE DUMP (.gsa) THAT YtahpnlnplngafaaProg.lean LOADS. Nothing in Lean hashes anything: it is a label: what it is worth is what the hold of that sum in a sandbox is worth. -/
noncomputable def Try.pinned : Pinned := { name := "ytahpnlnplngafaa", sum := "6533d9e09570814c753503a8438d6804a6df58577a722fa819ff3c1300c2e07f", checked := Try.checked }
namespace Rows
def none {H : Type} : Left H := { results := [], args := [] }

/-- 'laws.FnExactRampWeight': WHATEVER THE INPUT: true; the input reads as it did. -/
def fnExactRampWeightSpec : ChangeSpec := { name := "fnExactRampWeight", fn := fun _ => fun
  | [d1, d2, d3] => { results := [.lit (.bool true)], args := [d1, d2, d3] }
  | _ => none }
def fnExactRampWeightRow : OpenClaim := { program := "ytahpnlnplngafaa", sum := "6533d9e09570814c753503a8438d6804a6df58577a722fa819ff3c1300c2e07f", func := "loop.example/loadbalancer/laws.FnExactRampWeight", spec := "fnExactRampWeight", apart := false }
def FnExactRampWeightSaid : Prop := fnExactRampWeightRow.holds Try.pinned (OpenSpec.ofChange fnExactRampWeightSpec)

/-- ITS FALSE NEIGHBOUR: 'it returns false'. Refute it at one input. -/
def fnExactRampWeightWrong : ChangeSpec := { name := "fnExactRampWeight", fn := fun _ => fun
  | [d1, d2, d3] => { results := [.lit (.bool false)], args := [d1, d2, d3] }
  | _ => none }
def FnExactRampWeightWrongFalsely : Prop := fnExactRampWeightRow.holds Try.pinned (OpenSpec.ofChange fnExactRampWeightWrong)

/-- 'laws.FnRampWeight': WHATEVER THE INPUT: true; the input reads as it did. -/
def fnRampWeightSpec : ChangeSpec := { name := "fnRampWeight", fn := fun _ => fun
  | [d] => { results := [.lit (.bool true)], args := [d] }
  | _ => none }
def fnRampWeightRow : OpenClaim := { program := "ytahpnlnplngafaa", sum := "6533d9e09570814c753503a8438d6804a6df58577a722fa819ff3c1300c2e07f", func := "loop.example/loadbalancer/laws.FnRampWeight", spec := "fnRampWeight", apart := false }
def FnRampWeightSaid : Prop := fnRampWeightRow.holds Try.pinned (OpenSpec.ofChange fnRampWeightSpec)

/-- ITS FALSE NEIGHBOUR: 'it returns false'. Refute it at one input. -/
def fnRampWeightWrong : ChangeSpec := { name := "fnRampWeight", fn := fun _ => fun
  | [d] => { results := [.lit (.bool false)], args := [d] }
  | _ => none }
def FnRampWeightWrongFalsely : Prop := fnRampWeightRow.holds Try.pinned (OpenSpec.ofChange fnRampWeightWrong)

/-- 'laws.FnExactStreamStep': WHATEVER THE INPUT: true; the input reads as it did. -/
def fnExactStreamStepSpec : ChangeSpec := { name := "fnExactStreamStep", fn := fun _ => fun
  | [d1, d2] => { results := [.lit (.bool true)], args := [d1, d2] }
  | _ => none }
def fnExactStreamStepRow : OpenClaim := { program := "ytahpnlnplngafaa", sum := "6533d9e09570814c753503a8438d6804a6df58577a722fa819ff3c1300c2e07f", func := "loop.example/loadbalancer/laws.FnExactStreamStep", spec := "fnExactStreamStep", apart := false }
def FnExactStreamStepSaid : Prop := fnExactStreamStepRow.holds Try.pinned (OpenSpec.ofChange fnExactStreamStepSpec)

/-- ITS FALSE NEIGHBOUR: 'it returns false'. Refute it at one input. -/
def fnExactStreamStepWrong : ChangeSpec := { name := "fnExactStreamStep", fn := fun _ => fun
  | [d1, d2] => { results := [.lit (.bool false)], args := [d1, d2] }
  | _ => none }
def FnExactStreamStepWrongFalsely : Prop := fnExactStreamStepRow.holds Try.pinned (OpenSpec.ofChange fnExactStreamStepWrong)

/-- 'laws.FnStreamStep': WHATEVER THE INPUT: true; the input reads as it did. -/
def fnStreamStepSpec : ChangeSpec := { name := "fnStreamStep", fn := fun _ => fun
  | [d] => { results := [.lit (.bool true)], args := [d] }
  | _ => none }
def fnStreamStepRow : OpenClaim := { program := "ytahpnlnplngafaa", sum := "6533d9e09570814c753503a8438d6804a6df58577a722fa819ff3c1300c2e07f", func := "loop.example/loadbalancer/laws.FnStreamStep", spec := "fnStreamStep", apart := false }
def FnStreamStepSaid : Prop := fnStreamStepRow.holds Try.pinned (OpenSpec.ofChange fnStreamStepSpec)

/-- ITS FALSE NEIGHBOUR: 'it returns false'. Refute it at one input. -/
def fnStreamStepWrong : ChangeSpec := { name := "fnStreamStep", fn := fun _ => fun
  | [d] => { results := [.lit (.bool false)], args := [d] }
  | _ => none }
def FnStreamStepWrongFalsely : Prop := fnStreamStepRow.holds Try.pinned (OpenSpec.ofChange fnStreamStepWrong)

/-- 'laws.FnStayOf': WHATEVER THE INPUT: true; the input reads as it did. -/
def fnStayOfSpec : ChangeSpec := { name := "fnStayOf", fn := fun _ => fun
  | [d] => { results := [.lit (.bool true)], args := [d] }
  | _ => none }
def fnStayOfRow : OpenClaim := { program := "ytahpnlnplngafaa", sum := "6533d9e09570814c753503a8438d6804a6df58577a722fa819ff3c1300c2e07f", func := "loop.example/loadbalancer/laws.FnStayOf", spec := "fnStayOf", apart := false }
def FnStayOfSaid : Prop := fnStayOfRow.holds Try.pinned (OpenSpec.ofChange fnStayOfSpec)

/-- ITS FALSE NEIGHBOUR: 'it returns false'. Refute it at one input. -/
def fnStayOfWrong : ChangeSpec := { name := "fnStayOf", fn := fun _ => fun
  | [d] => { results := [.lit (.bool false)], args := [d] }
  | _ => none }
def FnStayOfWrongFalsely : Prop := fnStayOfRow.holds Try.pinned (OpenSpec.ofChange fnStayOfWrong)

/-- 'laws.FnExactStreamRun': WHATEVER THE INPUT: true; the input reads as it did. -/
def fnExactStreamRunSpec : ChangeSpec := { name := "fnExactStreamRun", fn := fun _ => fun
  | [d] => { results := [.lit (.bool true)], args := [d] }
  | _ => none }
def fnExactStreamRunRow : OpenClaim := { program := "ytahpnlnplngafaa", sum := "6533d9e09570814c753503a8438d6804a6df58577a722fa819ff3c1300c2e07f", func := "loop.example/loadbalancer/laws.FnExactStreamRun", spec := "fnExactStreamRun", apart := false }
def FnExactStreamRunSaid : Prop := fnExactStreamRunRow.holds Try.pinned (OpenSpec.ofChange fnExactStreamRunSpec)

/-- ITS FALSE NEIGHBOUR: 'it returns false'. Refute it at one input. -/
def fnExactStreamRunWrong : ChangeSpec := { name := "fnExactStreamRun", fn := fun _ => fun
  | [d] => { results := [.lit (.bool false)], args := [d] }
  | _ => none }
def FnExactStreamRunWrongFalsely : Prop := fnExactStreamRunRow.holds Try.pinned (OpenSpec.ofChange fnExactStreamRunWrong)

/-- 'laws.FnStreamRun': WHATEVER THE INPUT: true; the input reads as it did. -/
def fnStreamRunSpec : ChangeSpec := { name := "fnStreamRun", fn := fun _ => fun
  | [d] => { results := [.lit (.bool true)], args := [d] }
  | _ => none }
def fnStreamRunRow : OpenClaim := { program := "ytahpnlnplngafaa", sum := "6533d9e09570814c753503a8438d6804a6df58577a722fa819ff3c1300c2e07f", func := "loop.example/loadbalancer/laws.FnStreamRun", spec := "fnStreamRun", apart := false }
def FnStreamRunSaid : Prop := fnStreamRunRow.holds Try.pinned (OpenSpec.ofChange fnStreamRunSpec)

/-- ITS FALSE NEIGHBOUR: 'it returns false'. Refute it at one input. -/
def fnStreamRunWrong : ChangeSpec := { name := "fnStreamRun", fn := fun _ => fun
  | [d] => { results := [.lit (.bool false)], args := [d] }
  | _ => none }
def FnStreamRunWrongFalsely : Prop := fnStreamRunRow.holds Try.pinned (OpenSpec.ofChange fnStreamRunWrong)

/-- 'laws.FnStreamClosed': WHATEVER THE INPUT: true; the input reads as it did. -/
def fnStreamClosedSpec : ChangeSpec := { name := "fnStreamClosed", fn := fun _ => fun
  | [d] => { results := [.lit (.bool true)], args := [d] }
  | _ => none }
def fnStreamClosedRow : OpenClaim := { program := "ytahpnlnplngafaa", sum := "6533d9e09570814c753503a8438d6804a6df58577a722fa819ff3c1300c2e07f", func := "loop.example/loadbalancer/laws.FnStreamClosed", spec := "fnStreamClosed", apart := false }
def FnStreamClosedSaid : Prop := fnStreamClosedRow.holds Try.pinned (OpenSpec.ofChange fnStreamClosedSpec)

/-- ITS FALSE NEIGHBOUR: 'it returns false'. Refute it at one input. -/
def fnStreamClosedWrong : ChangeSpec := { name := "fnStreamClosed", fn := fun _ => fun
  | [d] => { results := [.lit (.bool false)], args := [d] }
  | _ => none }
def FnStreamClosedWrongFalsely : Prop := fnStreamClosedRow.holds Try.pinned (OpenSpec.ofChange fnStreamClosedWrong)

/-- 'laws.FnExactSumOf': WHATEVER THE INPUT: true; the input reads as it did. -/
def fnExactSumOfSpec : ChangeSpec := { name := "fnExactSumOf", fn := fun _ => fun
  | [d] => { results := [.lit (.bool true)], args := [d] }
  | _ => none }
def fnExactSumOfRow : OpenClaim := { program := "ytahpnlnplngafaa", sum := "6533d9e09570814c753503a8438d6804a6df58577a722fa819ff3c1300c2e07f", func := "loop.example/loadbalancer/laws.FnExactSumOf", spec := "fnExactSumOf", apart := false }
def FnExactSumOfSaid : Prop := fnExactSumOfRow.holds Try.pinned (OpenSpec.ofChange fnExactSumOfSpec)

/-- ITS FALSE NEIGHBOUR: 'it returns false'. Refute it at one input. -/
def fnExactSumOfWrong : ChangeSpec := { name := "fnExactSumOf", fn := fun _ => fun
  | [d] => { results := [.lit (.bool false)], args := [d] }
  | _ => none }
def FnExactSumOfWrongFalsely : Prop := fnExactSumOfRow.holds Try.pinned (OpenSpec.ofChange fnExactSumOfWrong)

/-- 'laws.FnSumOf': WHATEVER THE INPUT: true; the input reads as it did. -/
def fnSumOfSpec : ChangeSpec := { name := "fnSumOf", fn := fun _ => fun
  | [d] => { results := [.lit (.bool true)], args := [d] }
  | _ => none }
def fnSumOfRow : OpenClaim := { program := "ytahpnlnplngafaa", sum := "6533d9e09570814c753503a8438d6804a6df58577a722fa819ff3c1300c2e07f", func := "loop.example/loadbalancer/laws.FnSumOf", spec := "fnSumOf", apart := false }
def FnSumOfSaid : Prop := fnSumOfRow.holds Try.pinned (OpenSpec.ofChange fnSumOfSpec)

/-- ITS FALSE NEIGHBOUR: 'it returns false'. Refute it at one input. -/
def fnSumOfWrong : ChangeSpec := { name := "fnSumOf", fn := fun _ => fun
  | [d] => { results := [.lit (.bool false)], args := [d] }
  | _ => none }
def FnSumOfWrongFalsely : Prop := fnSumOfRow.holds Try.pinned (OpenSpec.ofChange fnSumOfWrong)

/-- 'laws.FnExactBucketValid': WHATEVER THE INPUT: true; the input reads as it did. -/
def fnExactBucketValidSpec : ChangeSpec := { name := "fnExactBucketValid", fn := fun _ => fun
  | [d] => { results := [.lit (.bool true)], args := [d] }
  | _ => none }
def fnExactBucketValidRow : OpenClaim := { program := "ytahpnlnplngafaa", sum := "6533d9e09570814c753503a8438d6804a6df58577a722fa819ff3c1300c2e07f", func := "loop.example/loadbalancer/laws.FnExactBucketValid", spec := "fnExactBucketValid", apart := false }
def FnExactBucketValidSaid : Prop := fnExactBucketValidRow.holds Try.pinned (OpenSpec.ofChange fnExactBucketValidSpec)

/-- ITS FALSE NEIGHBOUR: 'it returns false'. Refute it at one input. -/
def fnExactBucketValidWrong : ChangeSpec := { name := "fnExactBucketValid", fn := fun _ => fun
  | [d] => { results := [.lit (.bool false)], args := [d] }
  | _ => none }
def FnExactBucketValidWrongFalsely : Prop := fnExactBucketValidRow.holds Try.pinned (OpenSpec.ofChange fnExactBucketValidWrong)

/-- 'laws.FnBucketValid': WHATEVER THE INPUT: true; the input reads as it did. -/
def fnBucketValidSpec : ChangeSpec := { name := "fnBucketValid", fn := fun _ => fun
  | [d] => { results := [.lit (.bool true)], args := [d] }
  | _ => none }
def fnBucketValidRow : OpenClaim := { program := "ytahpnlnplngafaa", sum := "6533d9e09570814c753503a8438d6804a6df58577a722fa819ff3c1300c2e07f", func := "loop.example/loadbalancer/laws.FnBucketValid", spec := "fnBucketValid", apart := false }
def FnBucketValidSaid : Prop := fnBucketValidRow.holds Try.pinned (OpenSpec.ofChange fnBucketValidSpec)

/-- ITS FALSE NEIGHBOUR: 'it returns false'. Refute it at one input. -/
def fnBucketValidWrong : ChangeSpec := { name := "fnBucketValid", fn := fun _ => fun
  | [d] => { results := [.lit (.bool false)], args := [d] }
  | _ => none }
def FnBucketValidWrongFalsely : Prop := fnBucketValidRow.holds Try.pinned (OpenSpec.ofChange fnBucketValidWrong)

/- THE SECOND FORM. 'bulk': how many values and letters a reading holds, each counted each time it is reached (what is shared counts as often as it is met; a slice's spare places count too). A statement '..UptoSaid' is the law's where the arguments, and the package variables that the reading takes, are together of bulk at most 1048576: NARROWER than '..Said'. Prove '..Said' where nothing that the law and all that it calls make is longer than what came in: it says more and counts as full. Else prove '..UptoSaid'. A law counts once. -/
mutual
def uptoBulk {H : Type} : DataW H → Nat
  | .lit (.string bytes) => bytes.length + 1
  | .lit _ => 1
  | .nil => 1
  | .ptr d => uptoBulk d + 1
  | .slice elems spare => uptoBulkAll elems + uptoBulkAll spare + 1
  | .agg parts => uptoBulkAll parts + 1
  | .iface _ d => uptoBulk d + 1
  | .map entries => uptoBulkEntries entries + 1
  | .held _ => 1
def uptoBulkAll {H : Type} : List (DataW H) → Nat
  | [] => 0
  | d :: r => uptoBulk d + uptoBulkAll r
def uptoBulkEntries {H : Type} : List (Lit × DataW H) → Nat
  | [] => 0
  | x :: r => uptoBulkEntry x + uptoBulkEntries r
def uptoBulkEntry {H : Type} : Lit × DataW H → Nat
  | (.string bytes, d) => bytes.length + uptoBulk d + 1
  | (_, d) => uptoBulk d + 1
 end
def uptoSmall : (H : Type) → List (DataW H) → Bool := fun _ ds => decide (uptoBulkAll ds ≤ 1048576)
def OpenSpec.upto (s : _root_.Go.ChangeSpec) : _root_.Go.OpenSpec := { _root_.Go.OpenSpec.ofChange s with cond := some uptoSmall }

/-- 'laws.FnExactRampWeight', WHERE WHAT IT READS IS OF BULK AT MOST 1048576: true; the input reads as it did. -/
def fnExactRampWeightUptoRow : OpenClaim := { program := "ytahpnlnplngafaa", sum := "6533d9e09570814c753503a8438d6804a6df58577a722fa819ff3c1300c2e07f", func := "loop.example/loadbalancer/laws.FnExactRampWeight", spec := "fnExactRampWeight", apart := false, narrowed := true }
def FnExactRampWeightUptoSaid : Prop := fnExactRampWeightUptoRow.holds Try.pinned (OpenSpec.upto fnExactRampWeightSpec)

/-- 'laws.FnRampWeight', WHERE WHAT IT READS IS OF BULK AT MOST 1048576: true; the input reads as it did. -/
def fnRampWeightUptoRow : OpenClaim := { program := "ytahpnlnplngafaa", sum := "6533d9e09570814c753503a8438d6804a6df58577a722fa819ff3c1300c2e07f", func := "loop.example/loadbalancer/laws.FnRampWeight", spec := "fnRampWeight", apart := false, narrowed := true }
def FnRampWeightUptoSaid : Prop := fnRampWeightUptoRow.holds Try.pinned (OpenSpec.upto fnRampWeightSpec)

/-- 'laws.FnExactStreamStep', WHERE WHAT IT READS IS OF BULK AT MOST 1048576: true; the input reads as it did. -/
def fnExactStreamStepUptoRow : OpenClaim := { program := "ytahpnlnplngafaa", sum := "6533d9e09570814c753503a8438d6804a6df58577a722fa819ff3c1300c2e07f", func := "loop.example/loadbalancer/laws.FnExactStreamStep", spec := "fnExactStreamStep", apart := false, narrowed := true }
def FnExactStreamStepUptoSaid : Prop := fnExactStreamStepUptoRow.holds Try.pinned (OpenSpec.upto fnExactStreamStepSpec)

/-- 'laws.FnStreamStep', WHERE WHAT IT READS IS OF BULK AT MOST 1048576: true; the input reads as it did. -/
def fnStreamStepUptoRow : OpenClaim := { program := "ytahpnlnplngafaa", sum := "6533d9e09570814c753503a8438d6804a6df58577a722fa819ff3c1300c2e07f", func := "loop.example/loadbalancer/laws.FnStreamStep", spec := "fnStreamStep", apart := false, narrowed := true }
def FnStreamStepUptoSaid : Prop := fnStreamStepUptoRow.holds Try.pinned (OpenSpec.upto fnStreamStepSpec)

/-- 'laws.FnStayOf', WHERE WHAT IT READS IS OF BULK AT MOST 1048576: true; the input reads as it did. -/
def fnStayOfUptoRow : OpenClaim := { program := "ytahpnlnplngafaa", sum := "6533d9e09570814c753503a8438d6804a6df58577a722fa819ff3c1300c2e07f", func := "loop.example/loadbalancer/laws.FnStayOf", spec := "fnStayOf", apart := false, narrowed := true }
def FnStayOfUptoSaid : Prop := fnStayOfUptoRow.holds Try.pinned (OpenSpec.upto fnStayOfSpec)

/-- 'laws.FnExactStreamRun', WHERE WHAT IT READS IS OF BULK AT MOST 1048576: true; the input reads as it did. -/
def fnExactStreamRunUptoRow : OpenClaim := { program := "ytahpnlnplngafaa", sum := "6533d9e09570814c753503a8438d6804a6df58577a722fa819ff3c1300c2e07f", func := "loop.example/loadbalancer/laws.FnExactStreamRun", spec := "fnExactStreamRun", apart := false, narrowed := true }
def FnExactStreamRunUptoSaid : Prop := fnExactStreamRunUptoRow.holds Try.pinned (OpenSpec.upto fnExactStreamRunSpec)

/-- 'laws.FnStreamRun', WHERE WHAT IT READS IS OF BULK AT MOST 1048576: true; the input reads as it did. -/
def fnStreamRunUptoRow : OpenClaim := { program := "ytahpnlnplngafaa", sum := "6533d9e09570814c753503a8438d6804a6df58577a722fa819ff3c1300c2e07f", func := "loop.example/loadbalancer/laws.FnStreamRun", spec := "fnStreamRun", apart := false, narrowed := true }
def FnStreamRunUptoSaid : Prop := fnStreamRunUptoRow.holds Try.pinned (OpenSpec.upto fnStreamRunSpec)

/-- 'laws.FnStreamClosed', WHERE WHAT IT READS IS OF BULK AT MOST 1048576: true; the input reads as it did. -/
def fnStreamClosedUptoRow : OpenClaim := { program := "ytahpnlnplngafaa", sum := "6533d9e09570814c753503a8438d6804a6df58577a722fa819ff3c1300c2e07f", func := "loop.example/loadbalancer/laws.FnStreamClosed", spec := "fnStreamClosed", apart := false, narrowed := true }
def FnStreamClosedUptoSaid : Prop := fnStreamClosedUptoRow.holds Try.pinned (OpenSpec.upto fnStreamClosedSpec)

/-- 'laws.FnExactSumOf', WHERE WHAT IT READS IS OF BULK AT MOST 1048576: true; the input reads as it did. -/
def fnExactSumOfUptoRow : OpenClaim := { program := "ytahpnlnplngafaa", sum := "6533d9e09570814c753503a8438d6804a6df58577a722fa819ff3c1300c2e07f", func := "loop.example/loadbalancer/laws.FnExactSumOf", spec := "fnExactSumOf", apart := false, narrowed := true }
def FnExactSumOfUptoSaid : Prop := fnExactSumOfUptoRow.holds Try.pinned (OpenSpec.upto fnExactSumOfSpec)

/-- 'laws.FnSumOf', WHERE WHAT IT READS IS OF BULK AT MOST 1048576: true; the input reads as it did. -/
def fnSumOfUptoRow : OpenClaim := { program := "ytahpnlnplngafaa", sum := "6533d9e09570814c753503a8438d6804a6df58577a722fa819ff3c1300c2e07f", func := "loop.example/loadbalancer/laws.FnSumOf", spec := "fnSumOf", apart := false, narrowed := true }
def FnSumOfUptoSaid : Prop := fnSumOfUptoRow.holds Try.pinned (OpenSpec.upto fnSumOfSpec)

/-- 'laws.FnExactBucketValid', WHERE WHAT IT READS IS OF BULK AT MOST 1048576: true; the input reads as it did. -/
def fnExactBucketValidUptoRow : OpenClaim := { program := "ytahpnlnplngafaa", sum := "6533d9e09570814c753503a8438d6804a6df58577a722fa819ff3c1300c2e07f", func := "loop.example/loadbalancer/laws.FnExactBucketValid", spec := "fnExactBucketValid", apart := false, narrowed := true }
def FnExactBucketValidUptoSaid : Prop := fnExactBucketValidUptoRow.holds Try.pinned (OpenSpec.upto fnExactBucketValidSpec)

/-- 'laws.FnBucketValid', WHERE WHAT IT READS IS OF BULK AT MOST 1048576: true; the input reads as it did. -/
def fnBucketValidUptoRow : OpenClaim := { program := "ytahpnlnplngafaa", sum := "6533d9e09570814c753503a8438d6804a6df58577a722fa819ff3c1300c2e07f", func := "loop.example/loadbalancer/laws.FnBucketValid", spec := "fnBucketValid", apart := false, narrowed := true }
def FnBucketValidUptoSaid : Prop := fnBucketValidUptoRow.holds Try.pinned (OpenSpec.upto fnBucketValidSpec)

end Rows
end Go.Proofs.Ytahpnlnplngafaa
