/-
  No cell of these rows narrows 'for every input' (looked for: loops, veiled, ifaces, maps, wideKeys, modest, calm, conditions, laid).
  DERIVED. THE GIVEN ROWS OF THIS SEAT. 8 by the template 'for every input the law returns true; each argument reads behind the call as it read before'; 0 by the template 'total and deterministic' (their statements: YtfobcggcilbgbaaTotals.lean).
  GIVEN WITH THE SEED: the statements are not yours to turn. If you find one false, say at which input.
  Laid BY PROGRAM, IN A SANDBOX (cutbox-rows.mjs): the forced cells as the released guide's own fill.sh prints them over the translation 10e95dcec884fe08… (all of the seat's roots in one cut). By AI agents, Wed Nov 11 2026. No macro, syntax, notation, axiom, sorry.
-/
import Derived.Test.YtfobcggcilbgbaaChecked
import GoSem.Claim
import GoSem.ClaimJoined
import GoSem.ClaimMapViews
import Derived.JoinedTies
import Derived.KernelRfl
namespace Go.Proofs.Ytfobcggcilbgbaa
/- THE CELL 'sum', in the pinned program and in every row, IS THE sha256 OF THE DUMP (.gsa) THAT YtfobcggcilbgbaaProg.lean LOADS. Nothing in Lean hashes anything: it is a label: what it is worth is what the hold of that sum in a sandbox is worth. -/
noncomputable def Try.pinned : Pinned := { name := "ytfobcggcilbgbaa", sum := "10e95dcec884fe08c29ab2b197e3eeeb6b75569c1348517459866907549a7443", checked := Try.checked }
namespace Rows
def none {H : Type} : Left H := { results := [], args := [] }

/-- 'laws.FnExactHostBy': WHATEVER THE INPUT: true; the input reads as it did. -/
def fnExactHostBySpec : ChangeSpec := { name := "fnExactHostBy", fn := fun _ => fun
  | [d1, d2, d3] => { results := [.lit (.bool true)], args := [d1, d2, d3] }
  | _ => none }
def fnExactHostByRow : OpenClaim := { program := "ytfobcggcilbgbaa", sum := "10e95dcec884fe08c29ab2b197e3eeeb6b75569c1348517459866907549a7443", func := "loop.example/loadbalancer/laws.FnExactHostBy", spec := "fnExactHostBy", unfollowed := true, recurses := true, apart := false }
def FnExactHostBySaid : Prop := fnExactHostByRow.holds Try.pinned (OpenSpec.ofChange fnExactHostBySpec)

/-- ITS FALSE NEIGHBOUR: 'it returns false'. Refute it at one input. -/
def fnExactHostByWrong : ChangeSpec := { name := "fnExactHostBy", fn := fun _ => fun
  | [d1, d2, d3] => { results := [.lit (.bool false)], args := [d1, d2, d3] }
  | _ => none }
def FnExactHostByWrongFalsely : Prop := fnExactHostByRow.holds Try.pinned (OpenSpec.ofChange fnExactHostByWrong)

/-- 'laws.FnHostBy': WHATEVER THE INPUT: true; the input reads as it did. -/
def fnHostBySpec : ChangeSpec := { name := "fnHostBy", fn := fun _ => fun
  | [d] => { results := [.lit (.bool true)], args := [d] }
  | _ => none }
def fnHostByRow : OpenClaim := { program := "ytfobcggcilbgbaa", sum := "10e95dcec884fe08c29ab2b197e3eeeb6b75569c1348517459866907549a7443", func := "loop.example/loadbalancer/laws.FnHostBy", spec := "fnHostBy", unfollowed := true, recurses := true, apart := false }
def FnHostBySaid : Prop := fnHostByRow.holds Try.pinned (OpenSpec.ofChange fnHostBySpec)

/-- ITS FALSE NEIGHBOUR: 'it returns false'. Refute it at one input. -/
def fnHostByWrong : ChangeSpec := { name := "fnHostBy", fn := fun _ => fun
  | [d] => { results := [.lit (.bool false)], args := [d] }
  | _ => none }
def FnHostByWrongFalsely : Prop := fnHostByRow.holds Try.pinned (OpenSpec.ofChange fnHostByWrong)

/-- 'laws.FnNewHost': WHATEVER THE INPUT: true; the input reads as it did. -/
def fnNewHostSpec : ChangeSpec := { name := "fnNewHost", fn := fun _ => fun
  | [d] => { results := [.lit (.bool true)], args := [d] }
  | _ => none }
def fnNewHostRow : OpenClaim := { program := "ytfobcggcilbgbaa", sum := "10e95dcec884fe08c29ab2b197e3eeeb6b75569c1348517459866907549a7443", func := "loop.example/loadbalancer/laws.FnNewHost", spec := "fnNewHost", unfollowed := true, recurses := true, apart := false }
def FnNewHostSaid : Prop := fnNewHostRow.holds Try.pinned (OpenSpec.ofChange fnNewHostSpec)

/-- ITS FALSE NEIGHBOUR: 'it returns false'. Refute it at one input. -/
def fnNewHostWrong : ChangeSpec := { name := "fnNewHost", fn := fun _ => fun
  | [d] => { results := [.lit (.bool false)], args := [d] }
  | _ => none }
def FnNewHostWrongFalsely : Prop := fnNewHostRow.holds Try.pinned (OpenSpec.ofChange fnNewHostWrong)

/-- 'laws.FnRingMoves': WHATEVER THE INPUT: true; the input reads as it did. -/
def fnRingMovesSpec : ChangeSpec := { name := "fnRingMoves", fn := fun _ => fun
  | [d] => { results := [.lit (.bool true)], args := [d] }
  | _ => none }
def fnRingMovesRow : OpenClaim := { program := "ytfobcggcilbgbaa", sum := "10e95dcec884fe08c29ab2b197e3eeeb6b75569c1348517459866907549a7443", func := "loop.example/loadbalancer/laws.FnRingMoves", spec := "fnRingMoves", unfollowed := true, recurses := true, apart := false }
def FnRingMovesSaid : Prop := fnRingMovesRow.holds Try.pinned (OpenSpec.ofChange fnRingMovesSpec)

/-- ITS FALSE NEIGHBOUR: 'it returns false'. Refute it at one input. -/
def fnRingMovesWrong : ChangeSpec := { name := "fnRingMoves", fn := fun _ => fun
  | [d] => { results := [.lit (.bool false)], args := [d] }
  | _ => none }
def FnRingMovesWrongFalsely : Prop := fnRingMovesRow.holds Try.pinned (OpenSpec.ofChange fnRingMovesWrong)

/-- 'laws.FnExactMovedKeys': WHATEVER THE INPUT: true; the input reads as it did. -/
def fnExactMovedKeysSpec : ChangeSpec := { name := "fnExactMovedKeys", fn := fun _ => fun
  | [d1, d2, d3, d4] => { results := [.lit (.bool true)], args := [d1, d2, d3, d4] }
  | _ => none }
def fnExactMovedKeysRow : OpenClaim := { program := "ytfobcggcilbgbaa", sum := "10e95dcec884fe08c29ab2b197e3eeeb6b75569c1348517459866907549a7443", func := "loop.example/loadbalancer/laws.FnExactMovedKeys", spec := "fnExactMovedKeys", unfollowed := true, recurses := true, apart := false }
def FnExactMovedKeysSaid : Prop := fnExactMovedKeysRow.holds Try.pinned (OpenSpec.ofChange fnExactMovedKeysSpec)

/-- ITS FALSE NEIGHBOUR: 'it returns false'. Refute it at one input. -/
def fnExactMovedKeysWrong : ChangeSpec := { name := "fnExactMovedKeys", fn := fun _ => fun
  | [d1, d2, d3, d4] => { results := [.lit (.bool false)], args := [d1, d2, d3, d4] }
  | _ => none }
def FnExactMovedKeysWrongFalsely : Prop := fnExactMovedKeysRow.holds Try.pinned (OpenSpec.ofChange fnExactMovedKeysWrong)

/-- 'laws.FnMovedKeys': WHATEVER THE INPUT: true; the input reads as it did. -/
def fnMovedKeysSpec : ChangeSpec := { name := "fnMovedKeys", fn := fun _ => fun
  | [d] => { results := [.lit (.bool true)], args := [d] }
  | _ => none }
def fnMovedKeysRow : OpenClaim := { program := "ytfobcggcilbgbaa", sum := "10e95dcec884fe08c29ab2b197e3eeeb6b75569c1348517459866907549a7443", func := "loop.example/loadbalancer/laws.FnMovedKeys", spec := "fnMovedKeys", unfollowed := true, recurses := true, apart := false }
def FnMovedKeysSaid : Prop := fnMovedKeysRow.holds Try.pinned (OpenSpec.ofChange fnMovedKeysSpec)

/-- ITS FALSE NEIGHBOUR: 'it returns false'. Refute it at one input. -/
def fnMovedKeysWrong : ChangeSpec := { name := "fnMovedKeys", fn := fun _ => fun
  | [d] => { results := [.lit (.bool false)], args := [d] }
  | _ => none }
def FnMovedKeysWrongFalsely : Prop := fnMovedKeysRow.holds Try.pinned (OpenSpec.ofChange fnMovedKeysWrong)

/-- 'laws.FnExactSpreadOf': WHATEVER THE INPUT: true; the input reads as it did. -/
def fnExactSpreadOfSpec : ChangeSpec := { name := "fnExactSpreadOf", fn := fun _ => fun
  | [d1, d2, d3] => { results := [.lit (.bool true)], args := [d1, d2, d3] }
  | _ => none }
def fnExactSpreadOfRow : OpenClaim := { program := "ytfobcggcilbgbaa", sum := "10e95dcec884fe08c29ab2b197e3eeeb6b75569c1348517459866907549a7443", func := "loop.example/loadbalancer/laws.FnExactSpreadOf", spec := "fnExactSpreadOf", unfollowed := true, recurses := true, apart := false }
def FnExactSpreadOfSaid : Prop := fnExactSpreadOfRow.holds Try.pinned (OpenSpec.ofChange fnExactSpreadOfSpec)

/-- ITS FALSE NEIGHBOUR: 'it returns false'. Refute it at one input. -/
def fnExactSpreadOfWrong : ChangeSpec := { name := "fnExactSpreadOf", fn := fun _ => fun
  | [d1, d2, d3] => { results := [.lit (.bool false)], args := [d1, d2, d3] }
  | _ => none }
def FnExactSpreadOfWrongFalsely : Prop := fnExactSpreadOfRow.holds Try.pinned (OpenSpec.ofChange fnExactSpreadOfWrong)

/-- 'laws.FnSpreadOf': WHATEVER THE INPUT: true; the input reads as it did. -/
def fnSpreadOfSpec : ChangeSpec := { name := "fnSpreadOf", fn := fun _ => fun
  | [d] => { results := [.lit (.bool true)], args := [d] }
  | _ => none }
def fnSpreadOfRow : OpenClaim := { program := "ytfobcggcilbgbaa", sum := "10e95dcec884fe08c29ab2b197e3eeeb6b75569c1348517459866907549a7443", func := "loop.example/loadbalancer/laws.FnSpreadOf", spec := "fnSpreadOf", unfollowed := true, recurses := true, apart := false }
def FnSpreadOfSaid : Prop := fnSpreadOfRow.holds Try.pinned (OpenSpec.ofChange fnSpreadOfSpec)

/-- ITS FALSE NEIGHBOUR: 'it returns false'. Refute it at one input. -/
def fnSpreadOfWrong : ChangeSpec := { name := "fnSpreadOf", fn := fun _ => fun
  | [d] => { results := [.lit (.bool false)], args := [d] }
  | _ => none }
def FnSpreadOfWrongFalsely : Prop := fnSpreadOfRow.holds Try.pinned (OpenSpec.ofChange fnSpreadOfWrong)

/- THE SECOND FORM. 'bulk': how many values and letters a reading holds, each counted each time it is reached (what is shared counts as often as it is met; a slice's spare places count too). A statement '..UptoSaid' is the law's where the arguments, and the package variables that the reading takes, are together of bulk at most 1048576: NARROWER than '..Said'. Prove '..Said' where nothing that the law and all that it calls make is longer than what came in: it says more and counts as full. Else prove '..UptoSaid'. A law counts once. -/
mutual
def uptoBulk {H : Type} : DataW H → Nat
  | .lit (.string bytes) => bytes.length + 1
  | .lit _ => 1
  | .nil => 1
  | .ptr d => uptoBulk d + 1
  | .slice elems spare => uptoBulkAll elems + uptoBulkAll spare + 1
  | .agg parts => uptoBulkAll parts + 1
  | .iface _ d => uptoBulk d + 1
  | .map entries => uptoBulkEntries entries + 1
  | .held _ => 1
def uptoBulkAll {H : Type} : List (DataW H) → Nat
  | [] => 0
  | d :: r => uptoBulk d + uptoBulkAll r
def uptoBulkEntries {H : Type} : List (Lit × DataW H) → Nat
  | [] => 0
  | x :: r => uptoBulkEntry x + uptoBulkEntries r
def uptoBulkEntry {H : Type} : Lit × DataW H → Nat
  | (.string bytes, d) => bytes.length + uptoBulk d + 1
  | (_, d) => uptoBulk d + 1
 end
def uptoSmall : (H : Type) → List (DataW H) → Bool := fun _ ds => decide (uptoBulkAll ds ≤ 1048576)
def OpenSpec.upto (s : _root_.Go.ChangeSpec) : _root_.Go.OpenSpec := { _root_.Go.OpenSpec.ofChange s with cond := some uptoSmall }

/-- 'laws.FnExactHostBy', WHERE WHAT IT READS IS OF BULK AT MOST 1048576: true; the input reads as it did. -/
def fnExactHostByUptoRow : OpenClaim := { program := "ytfobcggcilbgbaa", sum := "10e95dcec884fe08c29ab2b197e3eeeb6b75569c1348517459866907549a7443", func := "loop.example/loadbalancer/laws.FnExactHostBy", spec := "fnExactHostBy", unfollowed := true, recurses := true, apart := false, narrowed := true }
def FnExactHostByUptoSaid : Prop := fnExactHostByUptoRow.holds Try.pinned (OpenSpec.upto fnExactHostBySpec)

/-- 'laws.FnHostBy', WHERE WHAT IT READS IS OF BULK AT MOST 1048576: true; the input reads as it did. -/
def fnHostByUptoRow : OpenClaim := { program := "ytfobcggcilbgbaa", sum := "10e95dcec884fe08c29ab2b197e3eeeb6b75569c1348517459866907549a7443", func := "loop.example/loadbalancer/laws.FnHostBy", spec := "fnHostBy", unfollowed := true, recurses := true, apart := false, narrowed := true }
def FnHostByUptoSaid : Prop := fnHostByUptoRow.holds Try.pinned (OpenSpec.upto fnHostBySpec)

/-- 'laws.FnNewHost', WHERE WHAT IT READS IS OF BULK AT MOST 1048576: true; the input reads as it did. -/
def fnNewHostUptoRow : OpenClaim := { program := "ytfobcggcilbgbaa", sum := "10e95dcec884fe08c29ab2b197e3eeeb6b75569c1348517459866907549a7443", func := "loop.example/loadbalancer/laws.FnNewHost", spec := "fnNewHost", unfollowed := true, recurses := true, apart := false, narrowed := true }
def FnNewHostUptoSaid : Prop := fnNewHostUptoRow.holds Try.pinned (OpenSpec.upto fnNewHostSpec)

/-- 'laws.FnRingMoves', WHERE WHAT IT READS IS OF BULK AT MOST 1048576: true; the input reads as it did. -/
def fnRingMovesUptoRow : OpenClaim := { program := "ytfobcggcilbgbaa", sum := "10e95dcec884fe08c29ab2b197e3eeeb6b75569c1348517459866907549a7443", func := "loop.example/loadbalancer/laws.FnRingMoves", spec := "fnRingMoves", unfollowed := true, recurses := true, apart := false, narrowed := true }
def FnRingMovesUptoSaid : Prop := fnRingMovesUptoRow.holds Try.pinned (OpenSpec.upto fnRingMovesSpec)

/-- 'laws.FnExactMovedKeys', WHERE WHAT IT READS IS OF BULK AT MOST 1048576: true; the input reads as it did. -/
def fnExactMovedKeysUptoRow : OpenClaim := { program := "ytfobcggcilbgbaa", sum := "10e95dcec884fe08c29ab2b197e3eeeb6b75569c1348517459866907549a7443", func := "loop.example/loadbalancer/laws.FnExactMovedKeys", spec := "fnExactMovedKeys", unfollowed := true, recurses := true, apart := false, narrowed := true }
def FnExactMovedKeysUptoSaid : Prop := fnExactMovedKeysUptoRow.holds Try.pinned (OpenSpec.upto fnExactMovedKeysSpec)

/-- 'laws.FnMovedKeys', WHERE WHAT IT READS IS OF BULK AT MOST 1048576: true; the input reads as it did. -/
def fnMovedKeysUptoRow : OpenClaim := { program := "ytfobcggcilbgbaa", sum := "10e95dcec884fe08c29ab2b197e3eeeb6b75569c1348517459866907549a7443", func := "loop.example/loadbalancer/laws.FnMovedKeys", spec := "fnMovedKeys", unfollowed := true, recurses := true, apart := false, narrowed := true }
def FnMovedKeysUptoSaid : Prop := fnMovedKeysUptoRow.holds Try.pinned (OpenSpec.upto fnMovedKeysSpec)

/-- 'laws.FnExactSpreadOf', WHERE WHAT IT READS IS OF BULK AT MOST 1048576: true; the input reads as it did. -/
def fnExactSpreadOfUptoRow : OpenClaim := { program := "ytfobcggcilbgbaa", sum := "10e95dcec884fe08c29ab2b197e3eeeb6b75569c1348517459866907549a7443", func := "loop.example/loadbalancer/laws.FnExactSpreadOf", spec := "fnExactSpreadOf", unfollowed := true, recurses := true, apart := false, narrowed := true }
def FnExactSpreadOfUptoSaid : Prop := fnExactSpreadOfUptoRow.holds Try.pinned (OpenSpec.upto fnExactSpreadOfSpec)

/-- 'laws.FnSpreadOf', WHERE WHAT IT READS IS OF BULK AT MOST 1048576: true; the input reads as it did. -/
def fnSpreadOfUptoRow : OpenClaim := { program := "ytfobcggcilbgbaa", sum := "10e95dcec884fe08c29ab2b197e3eeeb6b75569c1348517459866907549a7443", func := "loop.example/loadbalancer/laws.FnSpreadOf", spec := "fnSpreadOf", unfollowed := true, recurses := true, apart := false, narrowed := true }
def FnSpreadOfUptoSaid : Prop := fnSpreadOfUptoRow.holds Try.pinned (OpenSpec.upto fnSpreadOfSpec)

end Rows
end Go.Proofs.Ytfobcggcilbgbaa
