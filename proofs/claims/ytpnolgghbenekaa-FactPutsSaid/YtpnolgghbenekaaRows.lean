/-
  No cell of these rows narrows 'for every input' (looked for: loops, veiled, ifaces, maps, wideKeys, modest, calm, conditions, laid).
  DERIVED. THE GIVEN ROWS OF THIS SEAT. 7 by the template 'for every input the law returns true; each argument reads behind the call as it read before'; 0 by the template 'total and deterministic' (their statements: YtpnolgghbenekaaTotals.lean).
  GIVEN WITH THE SEED: the statements are not yours to turn. If you find one false, say at which input.
  Laid BY PROGRAM, IN A SANDBOX (cutbox-rows.mjs): the forced cells as the released guide's own fill.sh prints them over the translation d9a6a0fa5bb76716… (all of the seat's roots in one cut). By AI agents, Wed Nov 11 2026. No macro, syntax, notation, axiom, sorry.
-/
import Derived.Test.YtpnolgghbenekaaChecked
import GoSem.Claim
import GoSem.ClaimJoined
import GoSem.ClaimMapViews
import Derived.JoinedTies
import Derived.KernelRfl
namespace Go.Proofs.Ytpnolgghbenekaa
/- THE CELL 'sum', in the pinned program and in every row, IS THE sha256 OF THE DUMP (.gsa) THAT YtpnolgghbenekaaProg.lean LOADS. Nothing in Lean hashes anything: it is a label: what it is worth is what the hold of that sum in a sandbox is worth. -/
noncomputable def Try.pinned : Pinned := { name := "ytpnolgghbenekaa", sum := "d9a6a0fa5bb76716fb53b294080fd8878f33f2acaa020620de5c0ad4bc70c6ba", checked := Try.checked }
namespace Rows
def none {H : Type} : Left H := { results := [], args := [] }

/-- 'bushellaw25.TreeNodes': WHATEVER THE INPUT: true; the input reads as it did. -/
def treeNodesSpec : ChangeSpec := { name := "treeNodes", fn := fun _ => fun
  | [d1, d2] => { results := [.lit (.bool true)], args := [d1, d2] }
  | _ => none }
def treeNodesRow : OpenClaim := { program := "ytpnolgghbenekaa", sum := "d9a6a0fa5bb76716fb53b294080fd8878f33f2acaa020620de5c0ad4bc70c6ba", func := "bushel/bushellaw25.TreeNodes", spec := "treeNodes", unfollowed := true, recurses := true, apart := false }
def TreeNodesSaid : Prop := treeNodesRow.holds Try.pinned (OpenSpec.ofChange treeNodesSpec)

/-- ITS FALSE NEIGHBOUR: 'it returns false'. Refute it at one input. -/
def treeNodesWrong : ChangeSpec := { name := "treeNodes", fn := fun _ => fun
  | [d1, d2] => { results := [.lit (.bool false)], args := [d1, d2] }
  | _ => none }
def TreeNodesWrongFalsely : Prop := treeNodesRow.holds Try.pinned (OpenSpec.ofChange treeNodesWrong)

/-- 'bushellaw25.TreeAsks': WHATEVER THE INPUT: true; the input reads as it did. -/
def treeAsksSpec : ChangeSpec := { name := "treeAsks", fn := fun _ => fun
  | [d1, d2, d3] => { results := [.lit (.bool true)], args := [d1, d2, d3] }
  | _ => none }
def treeAsksRow : OpenClaim := { program := "ytpnolgghbenekaa", sum := "d9a6a0fa5bb76716fb53b294080fd8878f33f2acaa020620de5c0ad4bc70c6ba", func := "bushel/bushellaw25.TreeAsks", spec := "treeAsks", unfollowed := true, recurses := true, apart := false }
def TreeAsksSaid : Prop := treeAsksRow.holds Try.pinned (OpenSpec.ofChange treeAsksSpec)

/-- ITS FALSE NEIGHBOUR: 'it returns false'. Refute it at one input. -/
def treeAsksWrong : ChangeSpec := { name := "treeAsks", fn := fun _ => fun
  | [d1, d2, d3] => { results := [.lit (.bool false)], args := [d1, d2, d3] }
  | _ => none }
def TreeAsksWrongFalsely : Prop := treeAsksRow.holds Try.pinned (OpenSpec.ofChange treeAsksWrong)

/-- 'bushellaw12.FactChecks': WHATEVER THE INPUT: true; the input reads as it did. -/
def factChecksSpec : ChangeSpec := { name := "factChecks", fn := fun _ => fun
  | [d1, d2] => { results := [.lit (.bool true)], args := [d1, d2] }
  | _ => none }
def factChecksRow : OpenClaim := { program := "ytpnolgghbenekaa", sum := "d9a6a0fa5bb76716fb53b294080fd8878f33f2acaa020620de5c0ad4bc70c6ba", func := "bushel/bushellaw12.FactChecks", spec := "factChecks", inPlace := ["math.Float64bits"], unfollowed := true, recurses := true, apart := false }
def FactChecksSaid : Prop := factChecksRow.holds Try.pinned (OpenSpec.ofChange factChecksSpec)

/-- ITS FALSE NEIGHBOUR: 'it returns false'. Refute it at one input. -/
def factChecksWrong : ChangeSpec := { name := "factChecks", fn := fun _ => fun
  | [d1, d2] => { results := [.lit (.bool false)], args := [d1, d2] }
  | _ => none }
def FactChecksWrongFalsely : Prop := factChecksRow.holds Try.pinned (OpenSpec.ofChange factChecksWrong)

/-- 'bushellaw08.BufReads': WHATEVER THE INPUT: true; the input reads as it did. -/
def bufReadsSpec : ChangeSpec := { name := "bufReads", fn := fun _ => fun
  | [d1, d2] => { results := [.lit (.bool true)], args := [d1, d2] }
  | _ => none }
def bufReadsRow : OpenClaim := { program := "ytpnolgghbenekaa", sum := "d9a6a0fa5bb76716fb53b294080fd8878f33f2acaa020620de5c0ad4bc70c6ba", func := "bushel/bushellaw08.BufReads", spec := "bufReads", inPlace := ["math.Float64bits", "math.Float64frombits"], unfollowed := true, recurses := true, apart := false }
def BufReadsSaid : Prop := bufReadsRow.holds Try.pinned (OpenSpec.ofChange bufReadsSpec)

/-- ITS FALSE NEIGHBOUR: 'it returns false'. Refute it at one input. -/
def bufReadsWrong : ChangeSpec := { name := "bufReads", fn := fun _ => fun
  | [d1, d2] => { results := [.lit (.bool false)], args := [d1, d2] }
  | _ => none }
def BufReadsWrongFalsely : Prop := bufReadsRow.holds Try.pinned (OpenSpec.ofChange bufReadsWrong)

/-- 'bushellaw08.BufBack': WHATEVER THE INPUT: true; the input reads as it did. -/
def bufBackSpec : ChangeSpec := { name := "bufBack", fn := fun _ => fun
  | [d] => { results := [.lit (.bool true)], args := [d] }
  | _ => none }
def bufBackRow : OpenClaim := { program := "ytpnolgghbenekaa", sum := "d9a6a0fa5bb76716fb53b294080fd8878f33f2acaa020620de5c0ad4bc70c6ba", func := "bushel/bushellaw08.BufBack", spec := "bufBack", inPlace := ["math.Float64bits", "math.Float64frombits"], unfollowed := true, recurses := true, apart := false }
def BufBackSaid : Prop := bufBackRow.holds Try.pinned (OpenSpec.ofChange bufBackSpec)

/-- ITS FALSE NEIGHBOUR: 'it returns false'. Refute it at one input. -/
def bufBackWrong : ChangeSpec := { name := "bufBack", fn := fun _ => fun
  | [d] => { results := [.lit (.bool false)], args := [d] }
  | _ => none }
def BufBackWrongFalsely : Prop := bufBackRow.holds Try.pinned (OpenSpec.ofChange bufBackWrong)

/-- 'bushellaw08.BufNobody': WHATEVER THE INPUT: true; the input reads as it did. -/
def bufNobodySpec : ChangeSpec := { name := "bufNobody", fn := fun _ => fun
  | [d] => { results := [.lit (.bool true)], args := [d] }
  | _ => none }
def bufNobodyRow : OpenClaim := { program := "ytpnolgghbenekaa", sum := "d9a6a0fa5bb76716fb53b294080fd8878f33f2acaa020620de5c0ad4bc70c6ba", func := "bushel/bushellaw08.BufNobody", spec := "bufNobody", inPlace := ["math.Float64bits", "math.Float64frombits"], unfollowed := true, recurses := true, apart := false }
def BufNobodySaid : Prop := bufNobodyRow.holds Try.pinned (OpenSpec.ofChange bufNobodySpec)

/-- ITS FALSE NEIGHBOUR: 'it returns false'. Refute it at one input. -/
def bufNobodyWrong : ChangeSpec := { name := "bufNobody", fn := fun _ => fun
  | [d] => { results := [.lit (.bool false)], args := [d] }
  | _ => none }
def BufNobodyWrongFalsely : Prop := bufNobodyRow.holds Try.pinned (OpenSpec.ofChange bufNobodyWrong)

/-- 'bushellaw12.FactPuts': WHATEVER THE INPUT: true; the input reads as it did. -/
def factPutsSpec : ChangeSpec := { name := "factPuts", fn := fun _ => fun
  | [d1, d2] => { results := [.lit (.bool true)], args := [d1, d2] }
  | _ => none }
def factPutsRow : OpenClaim := { program := "ytpnolgghbenekaa", sum := "d9a6a0fa5bb76716fb53b294080fd8878f33f2acaa020620de5c0ad4bc70c6ba", func := "bushel/bushellaw12.FactPuts", spec := "factPuts", inPlace := ["math.Float64bits", "math.Float64frombits"], unfollowed := true, recurses := true, apart := false }
def FactPutsSaid : Prop := factPutsRow.holds Try.pinned (OpenSpec.ofChange factPutsSpec)

/-- ITS FALSE NEIGHBOUR: 'it returns false'. Refute it at one input. -/
def factPutsWrong : ChangeSpec := { name := "factPuts", fn := fun _ => fun
  | [d1, d2] => { results := [.lit (.bool false)], args := [d1, d2] }
  | _ => none }
def FactPutsWrongFalsely : Prop := factPutsRow.holds Try.pinned (OpenSpec.ofChange factPutsWrong)

/- THE SECOND FORM. 'bulk': how many values and letters a reading holds, each counted each time it is reached (what is shared counts as often as it is met; a slice's spare places count too). A statement '..UptoSaid' is the law's where the arguments, and the package variables that the reading takes, are together of bulk at most 1048576: NARROWER than '..Said'. Prove '..Said' where nothing that the law and all that it calls make is longer than what came in: it says more and counts as full. Else prove '..UptoSaid'. A law counts once. -/
mutual
def uptoBulk {H : Type} : DataW H → Nat
  | .lit (.string bytes) => bytes.length + 1
  | .lit _ => 1
  | .nil => 1
  | .ptr d => uptoBulk d + 1
  | .slice elems spare => uptoBulkAll elems + uptoBulkAll spare + 1
  | .agg parts => uptoBulkAll parts + 1
  | .iface _ d => uptoBulk d + 1
  | .map entries => uptoBulkEntries entries + 1
  | .held _ => 1
def uptoBulkAll {H : Type} : List (DataW H) → Nat
  | [] => 0
  | d :: r => uptoBulk d + uptoBulkAll r
def uptoBulkEntries {H : Type} : List (Lit × DataW H) → Nat
  | [] => 0
  | x :: r => uptoBulkEntry x + uptoBulkEntries r
def uptoBulkEntry {H : Type} : Lit × DataW H → Nat
  | (.string bytes, d) => bytes.length + uptoBulk d + 1
  | (_, d) => uptoBulk d + 1
 end
def uptoSmall : (H : Type) → List (DataW H) → Bool := fun _ ds => decide (uptoBulkAll ds ≤ 1048576)
def OpenSpec.upto (s : _root_.Go.ChangeSpec) : _root_.Go.OpenSpec := { _root_.Go.OpenSpec.ofChange s with cond := some uptoSmall }

/-- 'bushellaw25.TreeNodes', WHERE WHAT IT READS IS OF BULK AT MOST 1048576: true; the input reads as it did. -/
def treeNodesUptoRow : OpenClaim := { program := "ytpnolgghbenekaa", sum := "d9a6a0fa5bb76716fb53b294080fd8878f33f2acaa020620de5c0ad4bc70c6ba", func := "bushel/bushellaw25.TreeNodes", spec := "treeNodes", unfollowed := true, recurses := true, apart := false, narrowed := true }
def TreeNodesUptoSaid : Prop := treeNodesUptoRow.holds Try.pinned (OpenSpec.upto treeNodesSpec)

/-- 'bushellaw25.TreeAsks', WHERE WHAT IT READS IS OF BULK AT MOST 1048576: true; the input reads as it did. -/
def treeAsksUptoRow : OpenClaim := { program := "ytpnolgghbenekaa", sum := "d9a6a0fa5bb76716fb53b294080fd8878f33f2acaa020620de5c0ad4bc70c6ba", func := "bushel/bushellaw25.TreeAsks", spec := "treeAsks", unfollowed := true, recurses := true, apart := false, narrowed := true }
def TreeAsksUptoSaid : Prop := treeAsksUptoRow.holds Try.pinned (OpenSpec.upto treeAsksSpec)

/-- 'bushellaw12.FactChecks', WHERE WHAT IT READS IS OF BULK AT MOST 1048576: true; the input reads as it did. -/
def factChecksUptoRow : OpenClaim := { program := "ytpnolgghbenekaa", sum := "d9a6a0fa5bb76716fb53b294080fd8878f33f2acaa020620de5c0ad4bc70c6ba", func := "bushel/bushellaw12.FactChecks", spec := "factChecks", inPlace := ["math.Float64bits"], unfollowed := true, recurses := true, apart := false, narrowed := true }
def FactChecksUptoSaid : Prop := factChecksUptoRow.holds Try.pinned (OpenSpec.upto factChecksSpec)

/-- 'bushellaw08.BufReads', WHERE WHAT IT READS IS OF BULK AT MOST 1048576: true; the input reads as it did. -/
def bufReadsUptoRow : OpenClaim := { program := "ytpnolgghbenekaa", sum := "d9a6a0fa5bb76716fb53b294080fd8878f33f2acaa020620de5c0ad4bc70c6ba", func := "bushel/bushellaw08.BufReads", spec := "bufReads", inPlace := ["math.Float64bits", "math.Float64frombits"], unfollowed := true, recurses := true, apart := false, narrowed := true }
def BufReadsUptoSaid : Prop := bufReadsUptoRow.holds Try.pinned (OpenSpec.upto bufReadsSpec)

/-- 'bushellaw08.BufBack', WHERE WHAT IT READS IS OF BULK AT MOST 1048576: true; the input reads as it did. -/
def bufBackUptoRow : OpenClaim := { program := "ytpnolgghbenekaa", sum := "d9a6a0fa5bb76716fb53b294080fd8878f33f2acaa020620de5c0ad4bc70c6ba", func := "bushel/bushellaw08.BufBack", spec := "bufBack", inPlace := ["math.Float64bits", "math.Float64frombits"], unfollowed := true, recurses := true, apart := false, narrowed := true }
def BufBackUptoSaid : Prop := bufBackUptoRow.holds Try.pinned (OpenSpec.upto bufBackSpec)

/-- 'bushellaw08.BufNobody', WHERE WHAT IT READS IS OF BULK AT MOST 1048576: true; the input reads as it did. -/
def bufNobodyUptoRow : OpenClaim := { program := "ytpnolgghbenekaa", sum := "d9a6a0fa5bb76716fb53b294080fd8878f33f2acaa020620de5c0ad4bc70c6ba", func := "bushel/bushellaw08.BufNobody", spec := "bufNobody", inPlace := ["math.Float64bits", "math.Float64frombits"], unfollowed := true, recurses := true, apart := false, narrowed := true }
def BufNobodyUptoSaid : Prop := bufNobodyUptoRow.holds Try.pinned (OpenSpec.upto bufNobodySpec)

/-- 'bushellaw12.FactPuts', WHERE WHAT IT READS IS OF BULK AT MOST 1048576: true; the input reads as it did. -/
def factPutsUptoRow : OpenClaim := { program := "ytpnolgghbenekaa", sum := "d9a6a0fa5bb76716fb53b294080fd8878f33f2acaa020620de5c0ad4bc70c6ba", func := "bushel/bushellaw12.FactPuts", spec := "factPuts", inPlace := ["math.Float64bits", "math.Float64frombits"], unfollowed := true, recurses := true, apart := false, narrowed := true }
def FactPutsUptoSaid : Prop := factPutsUptoRow.holds Try.pinned (OpenSpec.upto factPutsSpec)

end Rows
end Go.Proofs.Ytpnolgghbenekaa
