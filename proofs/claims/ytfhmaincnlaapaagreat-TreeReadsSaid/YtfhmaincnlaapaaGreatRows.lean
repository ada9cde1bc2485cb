/-
  No cell of these rows narrows 'for every input' (looked for: loops, veiled, ifaces, maps, wideKeys, modest, calm, conditions, laid).
  DERIVED. THE GIVEN ROWS OF THIS SEAT. 6 by the template 'for every input the law returns true; each argument reads behind the call as it read before'; 0 by the template 'total and deterministic' (their statements: YtfhmaincnlaapaaGreatTotals.lean).
  GIVEN WITH THE SEED: the statements are not yours to turn. If you find one false, say at which input.
  Laid BY PROGRAM, IN A SANDBOX (cutbox-rows.mjs): the forced cells as the released guide's own fill.sh prints them over the translation 6aafa9b5b298bbff… (all of the seat's roots in one cut). By AI agents, Wed Nov 11 2026. No macro, syntax, notation, axiom, sorry.
-/
import Derived.Test.YtfhmaincnlaapaaGreatChecked
import GoSem.Claim
import GoSem.ClaimJoined
import GoSem.ClaimMapViews
import Derived.JoinedTies
import Derived.KernelRfl
namespace Go.Proofs.YtfhmaincnlaapaaGreat
/- THE CELL 'sum', in the pinned program and in every row, IS THE sha256 OF THE DUMP (.gsa) THAT YtfhmaincnlaapaaGreatProg.lean LOADS. Nothing in Lean hashes anything: it is a label: what it is worth is what the hold of that sum in a sandbox is worth. -/
noncomputable def Tryz.pinned : Pinned := { name := "ytfhmaincnlaapaagreat", sum := "6aafa9b5b298bbff731a17c07e7a80c88348a4d3876ba91f97a6d8ccf91f8a75", checked := Tryz.checked }
namespace Rows
def none {H : Type} : Left H := { results := [], args := [] }

/-- 'bushellaw12.FactGets': WHATEVER THE INPUT: true; the input reads as it did. -/
def factGetsSpec : ChangeSpec := { name := "factGets", fn := fun _ => fun
  | [d1, d2] => { results := [.lit (.bool true)], args := [d1, d2] }
  | _ => none }
def factGetsRow : OpenClaim := { program := "ytfhmaincnlaapaagreat", sum := "6aafa9b5b298bbff731a17c07e7a80c88348a4d3876ba91f97a6d8ccf91f8a75", func := "bushel/bushellaw12.FactGets", spec := "factGets", inPlace := ["math.Float64bits", "math.Float64frombits"], unfollowed := true, recurses := true, apart := false }
def FactGetsSaid : Prop := factGetsRow.holds Tryz.pinned (OpenSpec.ofChange factGetsSpec)

/-- ITS FALSE NEIGHBOUR: 'it returns false'. Refute it at one input. -/
def factGetsWrong : ChangeSpec := { name := "factGets", fn := fun _ => fun
  | [d1, d2] => { results := [.lit (.bool false)], args := [d1, d2] }
  | _ => none }
def FactGetsWrongFalsely : Prop := factGetsRow.holds Tryz.pinned (OpenSpec.ofChange factGetsWrong)

/-- 'bushellaw25.TreeReads': WHATEVER THE INPUT: true; the input reads as it did. -/
def treeReadsSpec : ChangeSpec := { name := "treeReads", fn := fun _ => fun
  | [d1, d2, d3] => { results := [.lit (.bool true)], args := [d1, d2, d3] }
  | _ => none }
def treeReadsRow : OpenClaim := { program := "ytfhmaincnlaapaagreat", sum := "6aafa9b5b298bbff731a17c07e7a80c88348a4d3876ba91f97a6d8ccf91f8a75", func := "bushel/bushellaw25.TreeReads", spec := "treeReads", inPlace := ["math.Float64bits", "math.Float64frombits"], unfollowed := true, recurses := true, apart := false }
def TreeReadsSaid : Prop := treeReadsRow.holds Tryz.pinned (OpenSpec.ofChange treeReadsSpec)

/-- ITS FALSE NEIGHBOUR: 'it returns false'. Refute it at one input. -/
def treeReadsWrong : ChangeSpec := { name := "treeReads", fn := fun _ => fun
  | [d1, d2, d3] => { results := [.lit (.bool false)], args := [d1, d2, d3] }
  | _ => none }
def TreeReadsWrongFalsely : Prop := treeReadsRow.holds Tryz.pinned (OpenSpec.ofChange treeReadsWrong)

/-- 'bushellaw14.AggRight': WHATEVER THE INPUT: true; the input reads as it did. -/
def aggRightSpec : ChangeSpec := { name := "aggRight", fn := fun _ => fun
  | [d1, d2, d3] => { results := [.lit (.bool true)], args := [d1, d2, d3] }
  | _ => none }
def aggRightRow : OpenClaim := { program := "ytfhmaincnlaapaagreat", sum := "6aafa9b5b298bbff731a17c07e7a80c88348a4d3876ba91f97a6d8ccf91f8a75", func := "bushel/bushellaw14.AggRight", spec := "aggRight", inPlace := ["math.Float64bits", "math.Float64frombits"], unfollowed := true, recurses := true, apart := false }
def AggRightSaid : Prop := aggRightRow.holds Tryz.pinned (OpenSpec.ofChange aggRightSpec)

/-- ITS FALSE NEIGHBOUR: 'it returns false'. Refute it at one input. -/
def aggRightWrong : ChangeSpec := { name := "aggRight", fn := fun _ => fun
  | [d1, d2, d3] => { results := [.lit (.bool false)], args := [d1, d2, d3] }
  | _ => none }
def AggRightWrongFalsely : Prop := aggRightRow.holds Tryz.pinned (OpenSpec.ofChange aggRightWrong)

/-- 'bushellaw25.TreeLeaves': WHATEVER THE INPUT: true; the input reads as it did. -/
def treeLeavesSpec : ChangeSpec := { name := "treeLeaves", fn := fun _ => fun
  | [d1, d2, d3] => { results := [.lit (.bool true)], args := [d1, d2, d3] }
  | _ => none }
def treeLeavesRow : OpenClaim := { program := "ytfhmaincnlaapaagreat", sum := "6aafa9b5b298bbff731a17c07e7a80c88348a4d3876ba91f97a6d8ccf91f8a75", func := "bushel/bushellaw25.TreeLeaves", spec := "treeLeaves", inPlace := ["math.Float64bits", "math.Float64frombits"], unfollowed := true, recurses := true, apart := false }
def TreeLeavesSaid : Prop := treeLeavesRow.holds Tryz.pinned (OpenSpec.ofChange treeLeavesSpec)

/-- ITS FALSE NEIGHBOUR: 'it returns false'. Refute it at one input. -/
def treeLeavesWrong : ChangeSpec := { name := "treeLeaves", fn := fun _ => fun
  | [d1, d2, d3] => { results := [.lit (.bool false)], args := [d1, d2, d3] }
  | _ => none }
def TreeLeavesWrongFalsely : Prop := treeLeavesRow.holds Tryz.pinned (OpenSpec.ofChange treeLeavesWrong)

/-- 'bushellaw14.AggGets': WHATEVER THE INPUT: true; the input reads as it did. -/
def aggGetsSpec : ChangeSpec := { name := "aggGets", fn := fun _ => fun
  | [d1, d2, d3] => { results := [.lit (.bool true)], args := [d1, d2, d3] }
  | _ => none }
def aggGetsRow : OpenClaim := { program := "ytfhmaincnlaapaagreat", sum := "6aafa9b5b298bbff731a17c07e7a80c88348a4d3876ba91f97a6d8ccf91f8a75", func := "bushel/bushellaw14.AggGets", spec := "aggGets", inPlace := ["math.Float64bits", "math.Float64frombits"], unfollowed := true, recurses := true, apart := false }
def AggGetsSaid : Prop := aggGetsRow.holds Tryz.pinned (OpenSpec.ofChange aggGetsSpec)

/-- ITS FALSE NEIGHBOUR: 'it returns false'. Refute it at one input. -/
def aggGetsWrong : ChangeSpec := { name := "aggGets", fn := fun _ => fun
  | [d1, d2, d3] => { results := [.lit (.bool false)], args := [d1, d2, d3] }
  | _ => none }
def AggGetsWrongFalsely : Prop := aggGetsRow.holds Tryz.pinned (OpenSpec.ofChange aggGetsWrong)

/-- 'bushellaw14.AggPuts': WHATEVER THE INPUT: true; the input reads as it did. -/
def aggPutsSpec : ChangeSpec := { name := "aggPuts", fn := fun _ => fun
  | [d1, d2, d3] => { results := [.lit (.bool true)], args := [d1, d2, d3] }
  | _ => none }
def aggPutsRow : OpenClaim := { program := "ytfhmaincnlaapaagreat", sum := "6aafa9b5b298bbff731a17c07e7a80c88348a4d3876ba91f97a6d8ccf91f8a75", func := "bushel/bushellaw14.AggPuts", spec := "aggPuts", inPlace := ["math.Float64bits", "math.Float64frombits"], unfollowed := true, recurses := true, apart := false }
def AggPutsSaid : Prop := aggPutsRow.holds Tryz.pinned (OpenSpec.ofChange aggPutsSpec)

/-- ITS FALSE NEIGHBOUR: 'it returns false'. Refute it at one input. -/
def aggPutsWrong : ChangeSpec := { name := "aggPuts", fn := fun _ => fun
  | [d1, d2, d3] => { results := [.lit (.bool false)], args := [d1, d2, d3] }
  | _ => none }
def AggPutsWrongFalsely : Prop := aggPutsRow.holds Tryz.pinned (OpenSpec.ofChange aggPutsWrong)

/- THE SECOND FORM. 'bulk': how many values and letters a reading holds, each counted each time it is reached (what is shared counts as often as it is met; a slice's spare places count too). A statement '..UptoSaid' is the law's where the arguments, and the package variables that the reading takes, are together of bulk at most 1048576: NARROWER than '..Said'. Prove '..Said' where nothing that the law and all that it calls make is longer than what came in: it says more and counts as full. Else prove '..UptoSaid'. A law counts once. -/
mutual
def uptoBulk {H : Type} : DataW H → Nat
  | .lit (.string bytes) => bytes.length + 1
  | .lit _ => 1
  | .nil => 1
  | .ptr d => uptoBulk d + 1
  | .slice elems spare => uptoBulkAll elems + uptoBulkAll spare + 1
  | .agg parts => uptoBulkAll parts + 1
  | .iface _ d => uptoBulk d + 1
  | .map entries => uptoBulkEntries entries + 1
  | .held _ => 1
def uptoBulkAll {H : Type} : List (DataW H) → Nat
  | [] => 0
  | d :: r => uptoBulk d + uptoBulkAll r
def uptoBulkEntries {H : Type} : List (Lit × DataW H) → Nat
  | [] => 0
  | x :: r => uptoBulkEntry x + uptoBulkEntries r
def uptoBulkEntry {H : Type} : Lit × DataW H → Nat
  | (.string bytes, d) => bytes.length + uptoBulk d + 1
  | (_, d) => uptoBulk d + 1
 end
def uptoSmall : (H : Type) → List (DataW H) → Bool := fun _ ds => decide (uptoBulkAll ds ≤ 1048576)
def OpenSpec.upto (s : _root_.Go.ChangeSpec) : _root_.Go.OpenSpec := { _root_.Go.OpenSpec.ofChange s with cond := some uptoSmall }

/-- 'bushellaw12.FactGets', WHERE WHAT IT READS IS OF BULK AT MOST 1048576: true; the input reads as it did. -/
def factGetsUptoRow : OpenClaim := { program := "ytfhmaincnlaapaagreat", sum := "6aafa9b5b298bbff731a17c07e7a80c88348a4d3876ba91f97a6d8ccf91f8a75", func := "bushel/bushellaw12.FactGets", spec := "factGets", inPlace := ["math.Float64bits", "math.Float64frombits"], unfollowed := true, recurses := true, apart := false, narrowed := true }
def FactGetsUptoSaid : Prop := factGetsUptoRow.holds Tryz.pinned (OpenSpec.upto factGetsSpec)

/-- 'bushellaw25.TreeReads', WHERE WHAT IT READS IS OF BULK AT MOST 1048576: true; the input reads as it did. -/
def treeReadsUptoRow : OpenClaim := { program := "ytfhmaincnlaapaagreat", sum := "6aafa9b5b298bbff731a17c07e7a80c88348a4d3876ba91f97a6d8ccf91f8a75", func := "bushel/bushellaw25.TreeReads", spec := "treeReads", inPlace := ["math.Float64bits", "math.Float64frombits"], unfollowed := true, recurses := true, apart := false, narrowed := true }
def TreeReadsUptoSaid : Prop := treeReadsUptoRow.holds Tryz.pinned (OpenSpec.upto treeReadsSpec)

/-- 'bushellaw14.AggRight', WHERE WHAT IT READS IS OF BULK AT MOST 1048576: true; the input reads as it did. -/
def aggRightUptoRow : OpenClaim := { program := "ytfhmaincnlaapaagreat", sum := "6aafa9b5b298bbff731a17c07e7a80c88348a4d3876ba91f97a6d8ccf91f8a75", func := "bushel/bushellaw14.AggRight", spec := "aggRight", inPlace := ["math.Float64bits", "math.Float64frombits"], unfollowed := true, recurses := true, apart := false, narrowed := true }
def AggRightUptoSaid : Prop := aggRightUptoRow.holds Tryz.pinned (OpenSpec.upto aggRightSpec)

/-- 'bushellaw25.TreeLeaves', WHERE WHAT IT READS IS OF BULK AT MOST 1048576: true; the input reads as it did. -/
def treeLeavesUptoRow : OpenClaim := { program := "ytfhmaincnlaapaagreat", sum := "6aafa9b5b298bbff731a17c07e7a80c88348a4d3876ba91f97a6d8ccf91f8a75", func := "bushel/bushellaw25.TreeLeaves", spec := "treeLeaves", inPlace := ["math.Float64bits", "math.Float64frombits"], unfollowed := true, recurses := true, apart := false, narrowed := true }
def TreeLeavesUptoSaid : Prop := treeLeavesUptoRow.holds Tryz.pinned (OpenSpec.upto treeLeavesSpec)

/-- 'bushellaw14.AggGets', WHERE WHAT IT READS IS OF BULK AT MOST 1048576: true; the input reads as it did. -/
def aggGetsUptoRow : OpenClaim := { program := "ytfhmaincnlaapaagreat", sum := "6aafa9b5b298bbff731a17c07e7a80c88348a4d3876ba91f97a6d8ccf91f8a75", func := "bushel/bushellaw14.AggGets", spec := "aggGets", inPlace := ["math.Float64bits", "math.Float64frombits"], unfollowed := true, recurses := true, apart := false, narrowed := true }
def AggGetsUptoSaid : Prop := aggGetsUptoRow.holds Tryz.pinned (OpenSpec.upto aggGetsSpec)

/-- 'bushellaw14.AggPuts', WHERE WHAT IT READS IS OF BULK AT MOST 1048576: true; the input reads as it did. -/
def aggPutsUptoRow : OpenClaim := { program := "ytfhmaincnlaapaagreat", sum := "6aafa9b5b298bbff731a17c07e7a80c88348a4d3876ba91f97a6d8ccf91f8a75", func := "bushel/bushellaw14.AggPuts", spec := "aggPuts", inPlace := ["math.Float64bits", "math.Float64frombits"], unfollowed := true, recurses := true, apart := false, narrowed := true }
def AggPutsUptoSaid : Prop := aggPutsUptoRow.holds Tryz.pinned (OpenSpec.upto aggPutsSpec)

end Rows
end Go.Proofs.YtfhmaincnlaapaaGreat
