/-
  No cell of these rows narrows 'for every input' (looked for: loops, veiled, ifaces, maps, wideKeys, modest, calm, conditions, laid).
  DERIVED. THE GIVEN ROWS OF THIS SEAT. 8 by the template 'for every input the law returns true; each argument reads behind the call as it read before'; 0 by the template 'total and deterministic' (their statements: YtnhodloclonfdaaTotals.lean).
  GIVEN WITH THE SEED: the statements are not yours to turn. If you find one false, say at which input.
  Laid BY PROGRAM, IN A SANDBOX (cutbox-rows.mjs): the forced cells as the released guide's own fill.sh prints them over the translation c38e1b3429db2a67… (all of the seat's roots in one cut). By AI agents, Wed Nov 11 2026. No macro, syntax, notation, axiom, sorry.
-/
import Derived.Test.YtnhodloclonfdaaChecked
import GoSem.Claim
import GoSem.ClaimJoined
import GoSem.ClaimMapViews
import Derived.JoinedTies
import Derived.KernelRfl
namespace Go.Proofs.Ytnhodloclonfdaa
/- THE CELL 'sum', in the pinned program and in every row, IS THE sha256 OF THE DUMP (.gsa) THAT YtnhodloclonfdaaProg.lean LOADS. Nothing in Lean hashes anything: it is a label: what it is worth is what the hold of that sum in a sandbox is worth. -/
noncomputable def Try.pinned : Pinned := { name := "ytnhodloclonfdaa", sum := "c38e1b3429db2a67d9d2cc73d188ab865d64afd0559f8c27bd4807de572f94b5", checked := Try.checked }
namespace Rows
def none {H : Type} : Left H := { results := [], args := [] }

/-- 'laws.FnExactHealthStep': WHATEVER THE INPUT: true; the input reads as it did. -/
def fnExactHealthStepSpec : ChangeSpec := { name := "fnExactHealthStep", fn := fun _ => fun
  | [d1, d2, d3, d4] => { results := [.lit (.bool true)], args := [d1, d2, d3, d4] }
  | _ => none }
def fnExactHealthStepRow : OpenClaim := { program := "ytnhodloclonfdaa", sum := "c38e1b3429db2a67d9d2cc73d188ab865d64afd0559f8c27bd4807de572f94b5", func := "loop.example/loadbalancer/laws.FnExactHealthStep", spec := "fnExactHealthStep", apart := false }
def FnExactHealthStepSaid : Prop := fnExactHealthStepRow.holds Try.pinned (OpenSpec.ofChange fnExactHealthStepSpec)

/-- ITS FALSE NEIGHBOUR: 'it returns false'. Refute it at one input. -/
def fnExactHealthStepWrong : ChangeSpec := { name := "fnExactHealthStep", fn := fun _ => fun
  | [d1, d2, d3, d4] => { results := [.lit (.bool false)], args := [d1, d2, d3, d4] }
  | _ => none }
def FnExactHealthStepWrongFalsely : Prop := fnExactHealthStepRow.holds Try.pinned (OpenSpec.ofChange fnExactHealthStepWrong)

/-- 'laws.FnHealthStep': WHATEVER THE INPUT: true; the input reads as it did. -/
def fnHealthStepSpec : ChangeSpec := { name := "fnHealthStep", fn := fun _ => fun
  | [d] => { results := [.lit (.bool true)], args := [d] }
  | _ => none }
def fnHealthStepRow : OpenClaim := { program := "ytnhodloclonfdaa", sum := "c38e1b3429db2a67d9d2cc73d188ab865d64afd0559f8c27bd4807de572f94b5", func := "loop.example/loadbalancer/laws.FnHealthStep", spec := "fnHealthStep", apart := false }
def FnHealthStepSaid : Prop := fnHealthStepRow.holds Try.pinned (OpenSpec.ofChange fnHealthStepSpec)

/-- ITS FALSE NEIGHBOUR: 'it returns false'. Refute it at one input. -/
def fnHealthStepWrong : ChangeSpec := { name := "fnHealthStep", fn := fun _ => fun
  | [d] => { results := [.lit (.bool false)], args := [d] }
  | _ => none }
def FnHealthStepWrongFalsely : Prop := fnHealthStepRow.holds Try.pinned (OpenSpec.ofChange fnHealthStepWrong)

/-- 'laws.FnExactHealthRun': WHATEVER THE INPUT: true; the input reads as it did. -/
def fnExactHealthRunSpec : ChangeSpec := { name := "fnExactHealthRun", fn := fun _ => fun
  | [d1, d2, d3] => { results := [.lit (.bool true)], args := [d1, d2, d3] }
  | _ => none }
def fnExactHealthRunRow : OpenClaim := { program := "ytnhodloclonfdaa", sum := "c38e1b3429db2a67d9d2cc73d188ab865d64afd0559f8c27bd4807de572f94b5", func := "loop.example/loadbalancer/laws.FnExactHealthRun", spec := "fnExactHealthRun", apart := false }
def FnExactHealthRunSaid : Prop := fnExactHealthRunRow.holds Try.pinned (OpenSpec.ofChange fnExactHealthRunSpec)

/-- ITS FALSE NEIGHBOUR: 'it returns false'. Refute it at one input. -/
def fnExactHealthRunWrong : ChangeSpec := { name := "fnExactHealthRun", fn := fun _ => fun
  | [d1, d2, d3] => { results := [.lit (.bool false)], args := [d1, d2, d3] }
  | _ => none }
def FnExactHealthRunWrongFalsely : Prop := fnExactHealthRunRow.holds Try.pinned (OpenSpec.ofChange fnExactHealthRunWrong)

/-- 'laws.FnHealthRun': WHATEVER THE INPUT: true; the input reads as it did. -/
def fnHealthRunSpec : ChangeSpec := { name := "fnHealthRun", fn := fun _ => fun
  | [d] => { results := [.lit (.bool true)], args := [d] }
  | _ => none }
def fnHealthRunRow : OpenClaim := { program := "ytnhodloclonfdaa", sum := "c38e1b3429db2a67d9d2cc73d188ab865d64afd0559f8c27bd4807de572f94b5", func := "loop.example/loadbalancer/laws.FnHealthRun", spec := "fnHealthRun", apart := false }
def FnHealthRunSaid : Prop := fnHealthRunRow.holds Try.pinned (OpenSpec.ofChange fnHealthRunSpec)

/-- ITS FALSE NEIGHBOUR: 'it returns false'. Refute it at one input. -/
def fnHealthRunWrong : ChangeSpec := { name := "fnHealthRun", fn := fun _ => fun
  | [d] => { results := [.lit (.bool false)], args := [d] }
  | _ => none }
def FnHealthRunWrongFalsely : Prop := fnHealthRunRow.holds Try.pinned (OpenSpec.ofChange fnHealthRunWrong)

/-- 'laws.FnExactHealthChanges': WHATEVER THE INPUT: true; the input reads as it did. -/
def fnExactHealthChangesSpec : ChangeSpec := { name := "fnExactHealthChanges", fn := fun _ => fun
  | [d1, d2, d3] => { results := [.lit (.bool true)], args := [d1, d2, d3] }
  | _ => none }
def fnExactHealthChangesRow : OpenClaim := { program := "ytnhodloclonfdaa", sum := "c38e1b3429db2a67d9d2cc73d188ab865d64afd0559f8c27bd4807de572f94b5", func := "loop.example/loadbalancer/laws.FnExactHealthChanges", spec := "fnExactHealthChanges", apart := false }
def FnExactHealthChangesSaid : Prop := fnExactHealthChangesRow.holds Try.pinned (OpenSpec.ofChange fnExactHealthChangesSpec)

/-- ITS FALSE NEIGHBOUR: 'it returns false'. Refute it at one input. -/
def fnExactHealthChangesWrong : ChangeSpec := { name := "fnExactHealthChanges", fn := fun _ => fun
  | [d1, d2, d3] => { results := [.lit (.bool false)], args := [d1, d2, d3] }
  | _ => none }
def FnExactHealthChangesWrongFalsely : Prop := fnExactHealthChangesRow.holds Try.pinned (OpenSpec.ofChange fnExactHealthChangesWrong)

/-- 'laws.FnHealthChanges': WHATEVER THE INPUT: true; the input reads as it did. -/
def fnHealthChangesSpec : ChangeSpec := { name := "fnHealthChanges", fn := fun _ => fun
  | [d] => { results := [.lit (.bool true)], args := [d] }
  | _ => none }
def fnHealthChangesRow : OpenClaim := { program := "ytnhodloclonfdaa", sum := "c38e1b3429db2a67d9d2cc73d188ab865d64afd0559f8c27bd4807de572f94b5", func := "loop.example/loadbalancer/laws.FnHealthChanges", spec := "fnHealthChanges", apart := false }
def FnHealthChangesSaid : Prop := fnHealthChangesRow.holds Try.pinned (OpenSpec.ofChange fnHealthChangesSpec)

/-- ITS FALSE NEIGHBOUR: 'it returns false'. Refute it at one input. -/
def fnHealthChangesWrong : ChangeSpec := { name := "fnHealthChanges", fn := fun _ => fun
  | [d] => { results := [.lit (.bool false)], args := [d] }
  | _ => none }
def FnHealthChangesWrongFalsely : Prop := fnHealthChangesRow.holds Try.pinned (OpenSpec.ofChange fnHealthChangesWrong)

/-- 'laws.FnExactRampPool': WHATEVER THE INPUT: true; the input reads as it did. -/
def fnExactRampPoolSpec : ChangeSpec := { name := "fnExactRampPool", fn := fun _ => fun
  | [d1, d2, d3, d4] => { results := [.lit (.bool true)], args := [d1, d2, d3, d4] }
  | _ => none }
def fnExactRampPoolRow : OpenClaim := { program := "ytnhodloclonfdaa", sum := "c38e1b3429db2a67d9d2cc73d188ab865d64afd0559f8c27bd4807de572f94b5", func := "loop.example/loadbalancer/laws.FnExactRampPool", spec := "fnExactRampPool", apart := false }
def FnExactRampPoolSaid : Prop := fnExactRampPoolRow.holds Try.pinned (OpenSpec.ofChange fnExactRampPoolSpec)

/-- ITS FALSE NEIGHBOUR: 'it returns false'. Refute it at one input. -/
def fnExactRampPoolWrong : ChangeSpec := { name := "fnExactRampPool", fn := fun _ => fun
  | [d1, d2, d3, d4] => { results := [.lit (.bool false)], args := [d1, d2, d3, d4] }
  | _ => none }
def FnExactRampPoolWrongFalsely : Prop := fnExactRampPoolRow.holds Try.pinned (OpenSpec.ofChange fnExactRampPoolWrong)

/-- 'laws.FnRampPool': WHATEVER THE INPUT: true; the input reads as it did. -/
def fnRampPoolSpec : ChangeSpec := { name := "fnRampPool", fn := fun _ => fun
  | [d] => { results := [.lit (.bool true)], args := [d] }
  | _ => none }
def fnRampPoolRow : OpenClaim := { program := "ytnhodloclonfdaa", sum := "c38e1b3429db2a67d9d2cc73d188ab865d64afd0559f8c27bd4807de572f94b5", func := "loop.example/loadbalancer/laws.FnRampPool", spec := "fnRampPool", apart := false }
def FnRampPoolSaid : Prop := fnRampPoolRow.holds Try.pinned (OpenSpec.ofChange fnRampPoolSpec)

/-- ITS FALSE NEIGHBOUR: 'it returns false'. Refute it at one input. -/
def fnRampPoolWrong : ChangeSpec := { name := "fnRampPool", fn := fun _ => fun
  | [d] => { results := [.lit (.bool false)], args := [d] }
  | _ => none }
def FnRampPoolWrongFalsely : Prop := fnRampPoolRow.holds Try.pinned (OpenSpec.ofChange fnRampPoolWrong)

/- THE SECOND FORM. 'bulk': how many values and letters a reading holds, each counted each time it is reached (what is shared counts as often as it is met; a slice's spare places count too). A statement '..UptoSaid' is the law's where the arguments, and the package variables that the reading takes, are together of bulk at most 1048576: NARROWER than '..Said'. Prove '..Said' where nothing that the law and all that it calls make is longer than what came in: it says more and counts as full. Else prove '..UptoSaid'. A law counts once. -/
mutual
def uptoBulk {H : Type} : DataW H → Nat
  | .lit (.string bytes) => bytes.length + 1
  | .lit _ => 1
  | .nil => 1
  | .ptr d => uptoBulk d + 1
  | .slice elems spare => uptoBulkAll elems + uptoBulkAll spare + 1
  | .agg parts => uptoBulkAll parts + 1
  | .iface _ d => uptoBulk d + 1
  | .map entries => uptoBulkEntries entries + 1
  | .held _ => 1
def uptoBulkAll {H : Type} : List (DataW H) → Nat
  | [] => 0
  | d :: r => uptoBulk d + uptoBulkAll r
def uptoBulkEntries {H : Type} : List (Lit × DataW H) → Nat
  | [] => 0
  | x :: r => uptoBulkEntry x + uptoBulkEntries r
def uptoBulkEntry {H : Type} : Lit × DataW H → Nat
  | (.string bytes, d) => bytes.length + uptoBulk d + 1
  | (_, d) => uptoBulk d + 1
 end
def uptoSmall : (H : Type) → List (DataW H) → Bool := fun _ ds => decide (uptoBulkAll ds ≤ 1048576)
def OpenSpec.upto (s : _root_.Go.ChangeSpec) : _root_.Go.OpenSpec := { _root_.Go.OpenSpec.ofChange s with cond := some uptoSmall }

/-- 'laws.FnExactHealthStep', WHERE WHAT IT READS IS OF BULK AT MOST 1048576: true; the input reads as it did. -/
def fnExactHealthStepUptoRow : OpenClaim := { program := "ytnhodloclonfdaa", sum := "c38e1b3429db2a67d9d2cc73d188ab865d64afd0559f8c27bd4807de572f94b5", func := "loop.example/loadbalancer/laws.FnExactHealthStep", spec := "fnExactHealthStep", apart := false, narrowed := true }
def FnExactHealthStepUptoSaid : Prop := fnExactHealthStepUptoRow.holds Try.pinned (OpenSpec.upto fnExactHealthStepSpec)

/-- 'laws.FnHealthStep', WHERE WHAT IT READS IS OF BULK AT MOST 1048576: true; the input reads as it did. -/
def fnHealthStepUptoRow : OpenClaim := { program := "ytnhodloclonfdaa", sum := "c38e1b3429db2a67d9d2cc73d188ab865d64afd0559f8c27bd4807de572f94b5", func := "loop.example/loadbalancer/laws.FnHealthStep", spec := "fnHealthStep", apart := false, narrowed := true }
def FnHealthStepUptoSaid : Prop := fnHealthStepUptoRow.holds Try.pinned (OpenSpec.upto fnHealthStepSpec)

/-- 'laws.FnExactHealthRun', WHERE WHAT IT READS IS OF BULK AT MOST 1048576: true; the input reads as it did. -/
def fnExactHealthRunUptoRow : OpenClaim := { program := "ytnhodloclonfdaa", sum := "c38e1b3429db2a67d9d2cc73d188ab865d64afd0559f8c27bd4807de572f94b5", func := "loop.example/loadbalancer/laws.FnExactHealthRun", spec := "fnExactHealthRun", apart := false, narrowed := true }
def FnExactHealthRunUptoSaid : Prop := fnExactHealthRunUptoRow.holds Try.pinned (OpenSpec.upto fnExactHealthRunSpec)

/-- 'laws.FnHealthRun', WHERE WHAT IT READS IS OF BULK AT MOST 1048576: true; the input reads as it did. -/
def fnHealthRunUptoRow : OpenClaim := { program := "ytnhodloclonfdaa", sum := "c38e1b3429db2a67d9d2cc73d188ab865d64afd0559f8c27bd4807de572f94b5", func := "loop.example/loadbalancer/laws.FnHealthRun", spec := "fnHealthRun", apart := false, narrowed := true }
def FnHealthRunUptoSaid : Prop := fnHealthRunUptoRow.holds Try.pinned (OpenSpec.upto fnHealthRunSpec)

/-- 'laws.FnExactHealthChanges', WHERE WHAT IT READS IS OF BULK AT MOST 1048576: true; the input reads as it did. -/
def fnExactHealthChangesUptoRow : OpenClaim := { program := "ytnhodloclonfdaa", sum := "c38e1b3429db2a67d9d2cc73d188ab865d64afd0559f8c27bd4807de572f94b5", func := "loop.example/loadbalancer/laws.FnExactHealthChanges", spec := "fnExactHealthChanges", apart := false, narrowed := true }
def FnExactHealthChangesUptoSaid : Prop := fnExactHealthChangesUptoRow.holds Try.pinned (OpenSpec.upto fnExactHealthChangesSpec)

/-- 'laws.FnHealthChanges', WHERE WHAT IT READS IS OF BULK AT MOST 1048576: true; the input reads as it did. -/
def fnHealthChangesUptoRow : OpenClaim := { program := "ytnhodloclonfdaa", sum := "c38e1b3429db2a67d9d2cc73d188ab865d64afd0559f8c27bd4807de572f94b5", func := "loop.example/loadbalancer/laws.FnHealthChanges", spec := "fnHealthChanges", apart := false, narrowed := true }
def FnHealthChangesUptoSaid : Prop := fnHealthChangesUptoRow.holds Try.pinned (OpenSpec.upto fnHealthChangesSpec)

/-- 'laws.FnExactRampPool', WHERE WHAT IT READS IS OF BULK AT MOST 1048576: true; the input reads as it did. -/
def fnExactRampPoolUptoRow : OpenClaim := { program := "ytnhodloclonfdaa", sum := "c38e1b3429db2a67d9d2cc73d188ab865d64afd0559f8c27bd4807de572f94b5", func := "loop.example/loadbalancer/laws.FnExactRampPool", spec := "fnExactRampPool", apart := false, narrowed := true }
def FnExactRampPoolUptoSaid : Prop := fnExactRampPoolUptoRow.holds Try.pinned (OpenSpec.upto fnExactRampPoolSpec)

/-- 'laws.FnRampPool', WHERE WHAT IT READS IS OF BULK AT MOST 1048576: true; the input reads as it did. -/
def fnRampPoolUptoRow : OpenClaim := { program := "ytnhodloclonfdaa", sum := "c38e1b3429db2a67d9d2cc73d188ab865d64afd0559f8c27bd4807de572f94b5", func := "loop.example/loadbalancer/laws.FnRampPool", spec := "fnRampPool", apart := false, narrowed := true }
def FnRampPoolUptoSaid : Prop := fnRampPoolUptoRow.holds Try.pinned (OpenSpec.upto fnRampPoolSpec)

end Rows
end Go.Proofs.Ytnhodloclonfdaa
