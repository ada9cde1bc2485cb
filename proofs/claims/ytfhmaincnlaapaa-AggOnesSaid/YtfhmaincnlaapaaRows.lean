/-
  No cell of these rows narrows 'for every input' (looked for: loops, veiled, ifaces, maps, wideKeys, modest, calm, conditions, laid).
  DERIVED. THE GIVEN ROWS OF THIS SEAT. 6 by the template 'for every input the law returns true; each argument reads behind the call as it read before'; 0 by the template 'total and deterministic' (their statements: YtfhmaincnlaapaaTotals.lean).
  GIVEN WITH THE SEED: the statements are not yours to turn. If you find one false, say at which input.
  Laid BY PROGRAM, IN A SANDBOX (cutbox-rows.mjs): the forced cells as the released guide's own fill.sh prints them over the translation 336cc098cb56f487… (all of the seat's roots in one cut). By AI agents, Wed Nov 11 2026. No macro, syntax, notation, axiom, sorry.
-/
import Derived.Test.YtfhmaincnlaapaaChecked
import GoSem.Claim
import GoSem.ClaimJoined
import GoSem.ClaimMapViews
import Derived.JoinedTies
import Derived.KernelRfl
namespace Go.Proofs.Ytfhmaincnlaapaa
/- THE CELL 'sum', in the pinned program and in every row, IS THE sha256 OF THE DUMP (.gsa) THAT YtfhmaincnlaapaaProg.lean LOADS. Nothing in Lean hashes anything: it is a label: what it is worth is what the hold of that sum in a sandbox is worth. -/
noncomputable def Try.pinned : Pinned := { name := "ytfhmaincnlaapaa", sum := "336cc098cb56f487ae09781b760ef377575b276eda6ed90716f2632011499fb1", checked := Try.checked }
namespace Rows
def none {H : Type} : Left H := { results := [], args := [] }

/-- 'bushellaw39.SpacePages': WHATEVER THE INPUT: true; the input reads as it did. -/
def spacePagesSpec : ChangeSpec := { name := "spacePages", fn := fun _ => fun
  | [d1, d2, d3] => { results := [.lit (.bool true)], args := [d1, d2, d3] }
  | _ => none }
def spacePagesRow : OpenClaim := { program := "ytfhmaincnlaapaa", sum := "336cc098cb56f487ae09781b760ef377575b276eda6ed90716f2632011499fb1", func := "bushel/bushellaw39.SpacePages", spec := "spacePages", inPlace := ["math.Float64bits"], apart := false }
def SpacePagesSaid : Prop := spacePagesRow.holds Try.pinned (OpenSpec.ofChange spacePagesSpec)

/-- ITS FALSE NEIGHBOUR: 'it returns false'. Refute it at one input. -/
def spacePagesWrong : ChangeSpec := { name := "spacePages", fn := fun _ => fun
  | [d1, d2, d3] => { results := [.lit (.bool false)], args := [d1, d2, d3] }
  | _ => none }
def SpacePagesWrongFalsely : Prop := spacePagesRow.holds Try.pinned (OpenSpec.ofChange spacePagesWrong)

/-- 'bushellaw25.TreeShares': WHATEVER THE INPUT: true; the input reads as it did. -/
def treeSharesSpec : ChangeSpec := { name := "treeShares", fn := fun _ => fun
  | [d1, d2, d3] => { results := [.lit (.bool true)], args := [d1, d2, d3] }
  | _ => none }
def treeSharesRow : OpenClaim := { program := "ytfhmaincnlaapaa", sum := "336cc098cb56f487ae09781b760ef377575b276eda6ed90716f2632011499fb1", func := "bushel/bushellaw25.TreeShares", spec := "treeShares", inPlace := ["math.Float64bits"], unfollowed := true, recurses := true, apart := false }
def TreeSharesSaid : Prop := treeSharesRow.holds Try.pinned (OpenSpec.ofChange treeSharesSpec)

/-- ITS FALSE NEIGHBOUR: 'it returns false'. Refute it at one input. -/
def treeSharesWrong : ChangeSpec := { name := "treeShares", fn := fun _ => fun
  | [d1, d2, d3] => { results := [.lit (.bool false)], args := [d1, d2, d3] }
  | _ => none }
def TreeSharesWrongFalsely : Prop := treeSharesRow.holds Try.pinned (OpenSpec.ofChange treeSharesWrong)

/-- 'bushellaw39.SpaceTells': WHATEVER THE INPUT: true; the input reads as it did. -/
def spaceTellsSpec : ChangeSpec := { name := "spaceTells", fn := fun _ => fun
  | [d1, d2, d3] => { results := [.lit (.bool true)], args := [d1, d2, d3] }
  | _ => none }
def spaceTellsRow : OpenClaim := { program := "ytfhmaincnlaapaa", sum := "336cc098cb56f487ae09781b760ef377575b276eda6ed90716f2632011499fb1", func := "bushel/bushellaw39.SpaceTells", spec := "spaceTells", inPlace := ["math.Float64bits"], unfollowed := true, recurses := true, apart := false }
def SpaceTellsSaid : Prop := spaceTellsRow.holds Try.pinned (OpenSpec.ofChange spaceTellsSpec)

/-- ITS FALSE NEIGHBOUR: 'it returns false'. Refute it at one input. -/
def spaceTellsWrong : ChangeSpec := { name := "spaceTells", fn := fun _ => fun
  | [d1, d2, d3] => { results := [.lit (.bool false)], args := [d1, d2, d3] }
  | _ => none }
def SpaceTellsWrongFalsely : Prop := spaceTellsRow.holds Try.pinned (OpenSpec.ofChange spaceTellsWrong)

/-- 'bushellaw14.AggJoins': WHATEVER THE INPUT: true; the input reads as it did. -/
def aggJoinsSpec : ChangeSpec := { name := "aggJoins", fn := fun _ => fun
  | [d1, d2] => { results := [.lit (.bool true)], args := [d1, d2] }
  | _ => none }
def aggJoinsRow : OpenClaim := { program := "ytfhmaincnlaapaa", sum := "336cc098cb56f487ae09781b760ef377575b276eda6ed90716f2632011499fb1", func := "bushel/bushellaw14.AggJoins", spec := "aggJoins", inPlace := ["math.Float64bits", "math.Float64frombits"], recurses := true, apart := false }
def AggJoinsSaid : Prop := aggJoinsRow.holds Try.pinned (OpenSpec.ofChange aggJoinsSpec)

/-- ITS FALSE NEIGHBOUR: 'it returns false'. Refute it at one input. -/
def aggJoinsWrong : ChangeSpec := { name := "aggJoins", fn := fun _ => fun
  | [d1, d2] => { results := [.lit (.bool false)], args := [d1, d2] }
  | _ => none }
def AggJoinsWrongFalsely : Prop := aggJoinsRow.holds Try.pinned (OpenSpec.ofChange aggJoinsWrong)

/-- 'bushellaw14.AggOrders': WHATEVER THE INPUT: true; the input reads as it did. -/
def aggOrdersSpec : ChangeSpec := { name := "aggOrders", fn := fun _ => fun
  | [d1, d2, d3] => { results := [.lit (.bool true)], args := [d1, d2, d3] }
  | _ => none }
def aggOrdersRow : OpenClaim := { program := "ytfhmaincnlaapaa", sum := "336cc098cb56f487ae09781b760ef377575b276eda6ed90716f2632011499fb1", func := "bushel/bushellaw14.AggOrders", spec := "aggOrders", inPlace := ["math.Float64bits", "math.Float64frombits"], apart := false }
def AggOrdersSaid : Prop := aggOrdersRow.holds Try.pinned (OpenSpec.ofChange aggOrdersSpec)

/-- ITS FALSE NEIGHBOUR: 'it returns false'. Refute it at one input. -/
def aggOrdersWrong : ChangeSpec := { name := "aggOrders", fn := fun _ => fun
  | [d1, d2, d3] => { results := [.lit (.bool false)], args := [d1, d2, d3] }
  | _ => none }
def AggOrdersWrongFalsely : Prop := aggOrdersRow.holds Try.pinned (OpenSpec.ofChange aggOrdersWrong)

/-- 'bushellaw14.AggOnes': WHATEVER THE INPUT: true; the input reads as it did. -/
def aggOnesSpec : ChangeSpec := { name := "aggOnes", fn := fun _ => fun
  | [d1, d2, d3] => { results := [.lit (.bool true)], args := [d1, d2, d3] }
  | _ => none }
def aggOnesRow : OpenClaim := { program := "ytfhmaincnlaapaa", sum := "336cc098cb56f487ae09781b760ef377575b276eda6ed90716f2632011499fb1", func := "bushel/bushellaw14.AggOnes", spec := "aggOnes", inPlace := ["math.Float64bits", "math.Float64frombits"], recurses := true, apart := false }
def AggOnesSaid : Prop := aggOnesRow.holds Try.pinned (OpenSpec.ofChange aggOnesSpec)

/-- ITS FALSE NEIGHBOUR: 'it returns false'. Refute it at one input. -/
def aggOnesWrong : ChangeSpec := { name := "aggOnes", fn := fun _ => fun
  | [d1, d2, d3] => { results := [.lit (.bool false)], args := [d1, d2, d3] }
  | _ => none }
def AggOnesWrongFalsely : Prop := aggOnesRow.holds Try.pinned (OpenSpec.ofChange aggOnesWrong)

/- THE SECOND FORM. 'bulk': how many values and letters a reading holds, each counted each time it is reached (what is shared counts as often as it is met; a slice's spare places count too). A statement '..UptoSaid' is the law's where the arguments, and the package variables that the reading takes, are together of bulk at most 1048576: NARROWER than '..Said'. Prove '..Said' where nothing that the law and all that it calls make is longer than what came in: it says more and counts as full. Else prove '..UptoSaid'. A law counts once. -/
mutual
def uptoBulk {H : Type} : DataW H → Nat
  | .lit (.string bytes) => bytes.length + 1
  | .lit _ => 1
  | .nil => 1
  | .ptr d => uptoBulk d + 1
  | .slice elems spare => uptoBulkAll elems + uptoBulkAll spare + 1
  | .agg parts => uptoBulkAll parts + 1
  | .iface _ d => uptoBulk d + 1
  | .map entries => uptoBulkEntries entries + 1
  | .held _ => 1
def uptoBulkAll {H : Type} : List (DataW H) → Nat
  | [] => 0
  | d :: r => uptoBulk d + uptoBulkAll r
def uptoBulkEntries {H : Type} : List (Lit × DataW H) → Nat
  | [] => 0
  | x :: r => uptoBulkEntry x + uptoBulkEntries r
def uptoBulkEntry {H : Type} : Lit × DataW H → Nat
  | (.string bytes, d) => bytes.length + uptoBulk d + 1
  | (_, d) => uptoBulk d + 1
 end
def uptoSmall : (H : Type) → List (DataW H) → Bool := fun _ ds => decide (uptoBulkAll ds ≤ 1048576)
def OpenSpec.upto (s : _root_.Go.ChangeSpec) : _root_.Go.OpenSpec := { _root_.Go.OpenSpec.ofChange s with cond := some uptoSmall }

/-- 'bushellaw39.SpacePages', WHERE WHAT IT READS IS OF BULK AT MOST 1048576: true; the input reads as it did. -/
def spacePagesUptoRow : OpenClaim := { program := "ytfhmaincnlaapaa", sum := "336cc098cb56f487ae09781b760ef377575b276eda6ed90716f2632011499fb1", func := "bushel/bushellaw39.SpacePages", spec := "spacePages", inPlace := ["math.Float64bits"], apart := false, narrowed := true }
def SpacePagesUptoSaid : Prop := spacePagesUptoRow.holds Try.pinned (OpenSpec.upto spacePagesSpec)

/-- 'bushellaw25.TreeShares', WHERE WHAT IT READS IS OF BULK AT MOST 1048576: true; the input reads as it did. -/
def treeSharesUptoRow : OpenClaim := { program := "ytfhmaincnlaapaa", sum := "336cc098cb56f487ae09781b760ef377575b276eda6ed90716f2632011499fb1", func := "bushel/bushellaw25.TreeShares", spec := "treeShares", inPlace := ["math.Float64bits"], unfollowed := true, recurses := true, apart := false, narrowed := true }
def TreeSharesUptoSaid : Prop := treeSharesUptoRow.holds Try.pinned (OpenSpec.upto treeSharesSpec)

/-- 'bushellaw39.SpaceTells', WHERE WHAT IT READS IS OF BULK AT MOST 1048576: true; the input reads as it did. -/
def spaceTellsUptoRow : OpenClaim := { program := "ytfhmaincnlaapaa", sum := "336cc098cb56f487ae09781b760ef377575b276eda6ed90716f2632011499fb1", func := "bushel/bushellaw39.SpaceTells", spec := "spaceTells", inPlace := ["math.Float64bits"], unfollowed := true, recurses := true, apart := false, narrowed := true }
def SpaceTellsUptoSaid : Prop := spaceTellsUptoRow.holds Try.pinned (OpenSpec.upto spaceTellsSpec)

/-- 'bushellaw14.AggJoins', WHERE WHAT IT READS IS OF BULK AT MOST 1048576: true; the input reads as it did. -/
def aggJoinsUptoRow : OpenClaim := { program := "ytfhmaincnlaapaa", sum := "336cc098cb56f487ae09781b760ef377575b276eda6ed90716f2632011499fb1", func := "bushel/bushellaw14.AggJoins", spec := "aggJoins", inPlace := ["math.Float64bits", "math.Float64frombits"], recurses := true, apart := false, narrowed := true }
def AggJoinsUptoSaid : Prop := aggJoinsUptoRow.holds Try.pinned (OpenSpec.upto aggJoinsSpec)

/-- 'bushellaw14.AggOrders', WHERE WHAT IT READS IS OF BULK AT MOST 1048576: true; the input reads as it did. -/
def aggOrdersUptoRow : OpenClaim := { program := "ytfhmaincnlaapaa", sum := "336cc098cb56f487ae09781b760ef377575b276eda6ed90716f2632011499fb1", func := "bushel/bushellaw14.AggOrders", spec := "aggOrders", inPlace := ["math.Float64bits", "math.Float64frombits"], apart := false, narrowed := true }
def AggOrdersUptoSaid : Prop := aggOrdersUptoRow.holds Try.pinned (OpenSpec.upto aggOrdersSpec)

/-- 'bushellaw14.AggOnes', WHERE WHAT IT READS IS OF BULK AT MOST 1048576: true; the input reads as it did. -/
def aggOnesUptoRow : OpenClaim := { program := "ytfhmaincnlaapaa", sum := "336cc098cb56f487ae09781b760ef377575b276eda6ed90716f2632011499fb1", func := "bushel/bushellaw14.AggOnes", spec := "aggOnes", inPlace := ["math.Float64bits", "math.Float64frombits"], recurses := true, apart := false, narrowed := true }
def AggOnesUptoSaid : Prop := aggOnesUptoRow.holds Try.pinned (OpenSpec.upto aggOnesSpec)

end Rows
end Go.Proofs.Ytfhmaincnlaapaa
