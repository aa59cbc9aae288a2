/-
  No cell of these rows narrows 'for every input' (looked for: loops, veiled, ifaces, maps, wideKeys, modest, calm, conditions, laid).
  DERIVED. THE GIVEN ROWS OF THIS SEAT. 4 by the template 'for every input the law returns true; each argument reads behind the call as it read before'; 0 by the template 'total and deterministic' (their statements: YtgdcfhifiincaaaTotals.lean).
  GIVEN WITH THE SEED: the statements are not yours to turn. If you find one false, say at which input.
  Laid BY PROGRAM, IN A SANDBOX (cutbox-rows.mjs): the forced cells as the released guide's own fill.sh prints them over the translation 9b1554b12d052bfe… (all of the seat's roots in one cut). By AI agents, Wed Nov 11 2026. No macro, syntax, notation, axiom, sorry.
-/
import Derived.Test.YtgdcfhifiincaaaChecked
import GoSem.Claim
import GoSem.ClaimJoined
import GoSem.ClaimMapViews
import Derived.JoinedTies
import Derived.KernelRfl
namespace Go.Proofs.Ytgdcfhifiincaaa
/- THE CELL 'sum', in the pinned program and in every row, IS THE sha256 OF THE DUMP (.gsa) THAT YtgdcfhifiincaaaProg.lean LOADS. Nothing in Lean hashes anything: it is a label: what it is worth is what the hold of that sum in a sandbox is worth. -/
noncomputable def Try.pinned : Pinned := { name := "ytgdcfhifiincaaa", sum := "9b1554b12d052bfeaeb5376cfed09b73bfeb383494c09b04d244652299f26392", checked := Try.checked }
namespace Rows
def none {H : Type} : Left H := { results := [], args := [] }

/-- 'laws.FnExactDrainedHosts': WHATEVER THE INPUT: true; the input reads as it did. -/
def fnExactDrainedHostsSpec : ChangeSpec := { name := "fnExactDrainedHosts", fn := fun _ => fun
  | [d1, d2] => { results := [.lit (.bool true)], args := [d1, d2] }
  | _ => none }
def fnExactDrainedHostsRow : OpenClaim := { program := "ytgdcfhifiincaaa", sum := "9b1554b12d052bfeaeb5376cfed09b73bfeb383494c09b04d244652299f26392", func := "loop.example/loadbalancer/laws.FnExactDrainedHosts", spec := "fnExactDrainedHosts", plainKeys := false, apart := false }
def FnExactDrainedHostsSaid : Prop := fnExactDrainedHostsRow.holds Try.pinned (OpenSpec.ofChange fnExactDrainedHostsSpec)

/-- ITS FALSE NEIGHBOUR: 'it returns false'. Refute it at one input. -/
def fnExactDrainedHostsWrong : ChangeSpec := { name := "fnExactDrainedHosts", fn := fun _ => fun
  | [d1, d2] => { results := [.lit (.bool false)], args := [d1, d2] }
  | _ => none }
def FnExactDrainedHostsWrongFalsely : Prop := fnExactDrainedHostsRow.holds Try.pinned (OpenSpec.ofChange fnExactDrainedHostsWrong)

/-- 'laws.FnDrainedHosts': WHATEVER THE INPUT: true; the input reads as it did. -/
def fnDrainedHostsSpec : ChangeSpec := { name := "fnDrainedHosts", fn := fun _ => fun
  | [d] => { results := [.lit (.bool true)], args := [d] }
  | _ => none }
def fnDrainedHostsRow : OpenClaim := { program := "ytgdcfhifiincaaa", sum := "9b1554b12d052bfeaeb5376cfed09b73bfeb383494c09b04d244652299f26392", func := "loop.example/loadbalancer/laws.FnDrainedHosts", spec := "fnDrainedHosts", unfollowed := true, recurses := true, plainKeys := false, apart := false }
def FnDrainedHostsSaid : Prop := fnDrainedHostsRow.holds Try.pinned (OpenSpec.ofChange fnDrainedHostsSpec)

/-- ITS FALSE NEIGHBOUR: 'it returns false'. Refute it at one input. -/
def fnDrainedHostsWrong : ChangeSpec := { name := "fnDrainedHosts", fn := fun _ => fun
  | [d] => { results := [.lit (.bool false)], args := [d] }
  | _ => none }
def FnDrainedHostsWrongFalsely : Prop := fnDrainedHostsRow.holds Try.pinned (OpenSpec.ofChange fnDrainedHostsWrong)

/-- 'laws.FnExactEndDrain': WHATEVER THE INPUT: true; the input reads as it did. -/
def fnExactEndDrainSpec : ChangeSpec := { name := "fnExactEndDrain", fn := fun _ => fun
  | [d1, d2] => { results := [.lit (.bool true)], args := [d1, d2] }
  | _ => none }
def fnExactEndDrainRow : OpenClaim := { program := "ytgdcfhifiincaaa", sum := "9b1554b12d052bfeaeb5376cfed09b73bfeb383494c09b04d244652299f26392", func := "loop.example/loadbalancer/laws.FnExactEndDrain", spec := "fnExactEndDrain", plainKeys := false, apart := false }
def FnExactEndDrainSaid : Prop := fnExactEndDrainRow.holds Try.pinned (OpenSpec.ofChange fnExactEndDrainSpec)

/-- ITS FALSE NEIGHBOUR: 'it returns false'. Refute it at one input. -/
def fnExactEndDrainWrong : ChangeSpec := { name := "fnExactEndDrain", fn := fun _ => fun
  | [d1, d2] => { results := [.lit (.bool false)], args := [d1, d2] }
  | _ => none }
def FnExactEndDrainWrongFalsely : Prop := fnExactEndDrainRow.holds Try.pinned (OpenSpec.ofChange fnExactEndDrainWrong)

/-- 'laws.FnEndDrain': WHATEVER THE INPUT: true; the input reads as it did. -/
def fnEndDrainSpec : ChangeSpec := { name := "fnEndDrain", fn := fun _ => fun
  | [d] => { results := [.lit (.bool true)], args := [d] }
  | _ => none }
def fnEndDrainRow : OpenClaim := { program := "ytgdcfhifiincaaa", sum := "9b1554b12d052bfeaeb5376cfed09b73bfeb383494c09b04d244652299f26392", func := "loop.example/loadbalancer/laws.FnEndDrain", spec := "fnEndDrain", unfollowed := true, recurses := true, plainKeys := false, apart := false }
def FnEndDrainSaid : Prop := fnEndDrainRow.holds Try.pinned (OpenSpec.ofChange fnEndDrainSpec)

/-- ITS FALSE NEIGHBOUR: 'it returns false'. Refute it at one input. -/
def fnEndDrainWrong : ChangeSpec := { name := "fnEndDrain", fn := fun _ => fun
  | [d] => { results := [.lit (.bool false)], args := [d] }
  | _ => none }
def FnEndDrainWrongFalsely : Prop := fnEndDrainRow.holds Try.pinned (OpenSpec.ofChange fnEndDrainWrong)

/- THE SECOND FORM. 'bulk': how many values and letters a reading holds, each counted each time it is reached (what is shared counts as often as it is met; a slice's spare places count too). A statement '..UptoSaid' is the law's where the arguments, and the package variables that the reading takes, are together of bulk at most 1048576: NARROWER than '..Said'. Prove '..Said' where nothing that the law and all that it calls make is longer than what came in: it says more and counts as full. Else prove '..UptoSaid'. A law counts once. -/
mutual
def uptoBulk {H : Type} : DataW H → Nat
  | .lit (.string bytes) => bytes.length + 1
  | .lit _ => 1
  | .nil => 1
  | .ptr d => uptoBulk d + 1
  | .slice elems spare => uptoBulkAll elems + uptoBulkAll spare + 1
  | .agg parts => uptoBulkAll parts + 1
  | .iface _ d => uptoBulk d + 1
  | .map entries => uptoBulkEntries entries + 1
  | .held _ => 1
def uptoBulkAll {H : Type} : List (DataW H) → Nat
  | [] => 0
  | d :: r => uptoBulk d + uptoBulkAll r
def uptoBulkEntries {H : Type} : List (Lit × DataW H) → Nat
  | [] => 0
  | x :: r => uptoBulkEntry x + uptoBulkEntries r
def uptoBulkEntry {H : Type} : Lit × DataW H → Nat
  | (.string bytes, d) => bytes.length + uptoBulk d + 1
  | (_, d) => uptoBulk d + 1
 end
def uptoSmall : (H : Type) → List (DataW H) → Bool := fun _ ds => decide (uptoBulkAll ds ≤ 1048576)
def OpenSpec.upto (s : _root_.Go.ChangeSpec) : _root_.Go.OpenSpec := { _root_.Go.OpenSpec.ofChange s with cond := some uptoSmall }

/-- 'laws.FnExactDrainedHosts', WHERE WHAT IT READS IS OF BULK AT MOST 1048576: true; the input reads as it did. -/
def fnExactDrainedHostsUptoRow : OpenClaim := { program := "ytgdcfhifiincaaa", sum := "9b1554b12d052bfeaeb5376cfed09b73bfeb383494c09b04d244652299f26392", func := "loop.example/loadbalancer/laws.FnExactDrainedHosts", spec := "fnExactDrainedHosts", plainKeys := false, apart := false, narrowed := true }
def FnExactDrainedHostsUptoSaid : Prop := fnExactDrainedHostsUptoRow.holds Try.pinned (OpenSpec.upto fnExactDrainedHostsSpec)

/-- 'laws.FnDrainedHosts', WHERE WHAT IT READS IS OF BULK AT MOST 1048576: true; the input reads as it did. -/
def fnDrainedHostsUptoRow : OpenClaim := { program := "ytgdcfhifiincaaa", sum := "9b1554b12d052bfeaeb5376cfed09b73bfeb383494c09b04d244652299f26392", func := "loop.example/loadbalancer/laws.FnDrainedHosts", spec := "fnDrainedHosts", unfollowed := true, recurses := true, plainKeys := false, apart := false, narrowed := true }
def FnDrainedHostsUptoSaid : Prop := fnDrainedHostsUptoRow.holds Try.pinned (OpenSpec.upto fnDrainedHostsSpec)

/-- 'laws.FnExactEndDrain', WHERE WHAT IT READS IS OF BULK AT MOST 1048576: true; the input reads as it did. -/
def fnExactEndDrainUptoRow : OpenClaim := { program := "ytgdcfhifiincaaa", sum := "9b1554b12d052bfeaeb5376cfed09b73bfeb383494c09b04d244652299f26392", func := "loop.example/loadbalancer/laws.FnExactEndDrain", spec := "fnExactEndDrain", plainKeys := false, apart := false, narrowed := true }
def FnExactEndDrainUptoSaid : Prop := fnExactEndDrainUptoRow.holds Try.pinned (OpenSpec.upto fnExactEndDrainSpec)

/-- 'laws.FnEndDrain', WHERE WHAT IT READS IS OF BULK AT MOST 1048576: true; the input reads as it did. -/
def fnEndDrainUptoRow : OpenClaim := { program := "ytgdcfhifiincaaa", sum := "9b1554b12d052bfeaeb5376cfed09b73bfeb383494c09b04d244652299f26392", func := "loop.example/loadbalancer/laws.FnEndDrain", spec := "fnEndDrain", unfollowed := true, recurses := true, plainKeys := false, apart := false, narrowed := true }
def FnEndDrainUptoSaid : Prop := fnEndDrainUptoRow.holds Try.pinned (OpenSpec.upto fnEndDrainSpec)

end Rows
end Go.Proofs.Ytgdcfhifiincaaa
