/-
  No cell of these rows narrows 'for every input' (looked for: loops, veiled, ifaces, maps, wideKeys, modest, calm, conditions, laid).
  DERIVED. THE GIVEN ROWS OF THIS SEAT. 7 by the template 'for every input the law returns true; each argument reads behind the call as it read before'; 0 by the template 'total and deterministic' (their statements: YtcfcdnoebgdfeaaTotals.lean).
  GIVEN WITH THE SEED: the statements are not yours to turn. If you find one false, say at which input.
  Laid BY PROGRAM, IN A SANDBOX (cutbox-rows.mjs): the forced cells as the released guide's own fill.sh prints them over the translation 6b80e19a14661611… (all of the seat's roots in one cut). By AI agents, Wed Nov 11 2026. No macro, syntax, notation, axiom, sorry.
-/
import Derived.Test.YtcfcdnoebgdfeaaChecked
import GoSem.Claim
import GoSem.ClaimJoined
import GoSem.ClaimMapViews
import Derived.JoinedTies
import Derived.KernelRfl
namespace Go.Proofs.Ytcfcdnoebgdfeaa
/- THE CELL 'sum', in the pinned program and in every row, IS THE sha256 OF THE DUMP (.gsa) THAT YtcfcdnoebgdfeaaProg.lean LOADS. Nothing in Lean hashes anything: it is a label: what it is worth is what the hold of that sum in a sandbox is worth. -/
noncomputable def Try.pinned : Pinned := { name := "ytcfcdnoebgdfeaa", sum := "6b80e19a14661611efe2c244a3df74ca6ca32edc43f1bf348aaff2f58d564458", checked := Try.checked }
namespace Rows
def none {H : Type} : Left H := { results := [], args := [] }

/-- 'understudylaw01.WireWeighs': WHATEVER THE INPUT: true; the input reads as it did. -/
def wireWeighsSpec : ChangeSpec := { name := "wireWeighs", fn := fun _ => fun
  | [d1, d2] => { results := [.lit (.bool true)], args := [d1, d2] }
  | _ => none }
def wireWeighsRow : OpenClaim := { program := "ytcfcdnoebgdfeaa", sum := "6b80e19a14661611efe2c244a3df74ca6ca32edc43f1bf348aaff2f58d564458", func := "understudy/understudylaw01.WireWeighs", spec := "wireWeighs", apart := false }
def WireWeighsSaid : Prop := wireWeighsRow.holds Try.pinned (OpenSpec.ofChange wireWeighsSpec)

/-- ITS FALSE NEIGHBOUR: 'it returns false'. Refute it at one input. -/
def wireWeighsWrong : ChangeSpec := { name := "wireWeighs", fn := fun _ => fun
  | [d1, d2] => { results := [.lit (.bool false)], args := [d1, d2] }
  | _ => none }
def WireWeighsWrongFalsely : Prop := wireWeighsRow.holds Try.pinned (OpenSpec.ofChange wireWeighsWrong)

/-- 'understudylaw01.WireOrders': WHATEVER THE INPUT: true; the input reads as it did. -/
def wireOrdersSpec : ChangeSpec := { name := "wireOrders", fn := fun _ => fun
  | [d1, d2] => { results := [.lit (.bool true)], args := [d1, d2] }
  | _ => none }
def wireOrdersRow : OpenClaim := { program := "ytcfcdnoebgdfeaa", sum := "6b80e19a14661611efe2c244a3df74ca6ca32edc43f1bf348aaff2f58d564458", func := "understudy/understudylaw01.WireOrders", spec := "wireOrders", apart := false }
def WireOrdersSaid : Prop := wireOrdersRow.holds Try.pinned (OpenSpec.ofChange wireOrdersSpec)

/-- ITS FALSE NEIGHBOUR: 'it returns false'. Refute it at one input. -/
def wireOrdersWrong : ChangeSpec := { name := "wireOrders", fn := fun _ => fun
  | [d1, d2] => { results := [.lit (.bool false)], args := [d1, d2] }
  | _ => none }
def WireOrdersWrongFalsely : Prop := wireOrdersRow.holds Try.pinned (OpenSpec.ofChange wireOrdersWrong)

/-- 'understudylaw01.WireBlobs': WHATEVER THE INPUT: true; the input reads as it did. -/
def wireBlobsSpec : ChangeSpec := { name := "wireBlobs", fn := fun _ => fun
  | [d1, d2] => { results := [.lit (.bool true)], args := [d1, d2] }
  | _ => none }
def wireBlobsRow : OpenClaim := { program := "ytcfcdnoebgdfeaa", sum := "6b80e19a14661611efe2c244a3df74ca6ca32edc43f1bf348aaff2f58d564458", func := "understudy/understudylaw01.WireBlobs", spec := "wireBlobs", apart := false }
def WireBlobsSaid : Prop := wireBlobsRow.holds Try.pinned (OpenSpec.ofChange wireBlobsSpec)

/-- ITS FALSE NEIGHBOUR: 'it returns false'. Refute it at one input. -/
def wireBlobsWrong : ChangeSpec := { name := "wireBlobs", fn := fun _ => fun
  | [d1, d2] => { results := [.lit (.bool false)], args := [d1, d2] }
  | _ => none }
def WireBlobsWrongFalsely : Prop := wireBlobsRow.holds Try.pinned (OpenSpec.ofChange wireBlobsWrong)

/-- 'understudylaw01.WireWalks': WHATEVER THE INPUT: true; the input reads as it did. -/
def wireWalksSpec : ChangeSpec := { name := "wireWalks", fn := fun _ => fun
  | [d1, d2] => { results := [.lit (.bool true)], args := [d1, d2] }
  | _ => none }
def wireWalksRow : OpenClaim := { program := "ytcfcdnoebgdfeaa", sum := "6b80e19a14661611efe2c244a3df74ca6ca32edc43f1bf348aaff2f58d564458", func := "understudy/understudylaw01.WireWalks", spec := "wireWalks", apart := false }
def WireWalksSaid : Prop := wireWalksRow.holds Try.pinned (OpenSpec.ofChange wireWalksSpec)

/-- ITS FALSE NEIGHBOUR: 'it returns false'. Refute it at one input. -/
def wireWalksWrong : ChangeSpec := { name := "wireWalks", fn := fun _ => fun
  | [d1, d2] => { results := [.lit (.bool false)], args := [d1, d2] }
  | _ => none }
def WireWalksWrongFalsely : Prop := wireWalksRow.holds Try.pinned (OpenSpec.ofChange wireWalksWrong)

/-- 'understudylaw01.WireSteps': WHATEVER THE INPUT: true; the input reads as it did. -/
def wireStepsSpec : ChangeSpec := { name := "wireSteps", fn := fun _ => fun
  | [d1, d2, d3] => { results := [.lit (.bool true)], args := [d1, d2, d3] }
  | _ => none }
def wireStepsRow : OpenClaim := { program := "ytcfcdnoebgdfeaa", sum := "6b80e19a14661611efe2c244a3df74ca6ca32edc43f1bf348aaff2f58d564458", func := "understudy/understudylaw01.WireSteps", spec := "wireSteps", apart := false }
def WireStepsSaid : Prop := wireStepsRow.holds Try.pinned (OpenSpec.ofChange wireStepsSpec)

/-- ITS FALSE NEIGHBOUR: 'it returns false'. Refute it at one input. -/
def wireStepsWrong : ChangeSpec := { name := "wireSteps", fn := fun _ => fun
  | [d1, d2, d3] => { results := [.lit (.bool false)], args := [d1, d2, d3] }
  | _ => none }
def WireStepsWrongFalsely : Prop := wireStepsRow.holds Try.pinned (OpenSpec.ofChange wireStepsWrong)

/-- 'understudylaw01.WireKeeps': WHATEVER THE INPUT: true; the input reads as it did. -/
def wireKeepsSpec : ChangeSpec := { name := "wireKeeps", fn := fun _ => fun
  | [d] => { results := [.lit (.bool true)], args := [d] }
  | _ => none }
def wireKeepsRow : OpenClaim := { program := "ytcfcdnoebgdfeaa", sum := "6b80e19a14661611efe2c244a3df74ca6ca32edc43f1bf348aaff2f58d564458", func := "understudy/understudylaw01.WireKeeps", spec := "wireKeeps", apart := false }
def WireKeepsSaid : Prop := wireKeepsRow.holds Try.pinned (OpenSpec.ofChange wireKeepsSpec)

/-- ITS FALSE NEIGHBOUR: 'it returns false'. Refute it at one input. -/
def wireKeepsWrong : ChangeSpec := { name := "wireKeeps", fn := fun _ => fun
  | [d] => { results := [.lit (.bool false)], args := [d] }
  | _ => none }
def WireKeepsWrongFalsely : Prop := wireKeepsRow.holds Try.pinned (OpenSpec.ofChange wireKeepsWrong)

/-- 'understudylaw01.WireRows': WHATEVER THE INPUT: true; the input reads as it did. -/
def wireRowsSpec : ChangeSpec := { name := "wireRows", fn := fun _ => fun
  | [d1, d2, d3, d4] => { results := [.lit (.bool true)], args := [d1, d2, d3, d4] }
  | _ => none }
def wireRowsRow : OpenClaim := { program := "ytcfcdnoebgdfeaa", sum := "6b80e19a14661611efe2c244a3df74ca6ca32edc43f1bf348aaff2f58d564458", func := "understudy/understudylaw01.WireRows", spec := "wireRows", inPlace := ["internal/abi.NoEscape", "internal/bytealg.MakeNoZero"], apart := false }
def WireRowsSaid : Prop := wireRowsRow.holds Try.pinned (OpenSpec.ofChange wireRowsSpec)

/-- ITS FALSE NEIGHBOUR: 'it returns false'. Refute it at one input. -/
def wireRowsWrong : ChangeSpec := { name := "wireRows", fn := fun _ => fun
  | [d1, d2, d3, d4] => { results := [.lit (.bool false)], args := [d1, d2, d3, d4] }
  | _ => none }
def WireRowsWrongFalsely : Prop := wireRowsRow.holds Try.pinned (OpenSpec.ofChange wireRowsWrong)

/- THE SECOND FORM. 'bulk': how many values and letters a reading holds, each counted each time it is reached (what is shared counts as often as it is met; a slice's spare places count too). A statement '..UptoSaid' is the law's where the arguments, and the package variables that the reading takes, are together of bulk at most 1048576: NARROWER than '..Said'. Prove '..Said' where nothing that the law and all that it calls make is longer than what came in: it says more and counts as full. Else prove '..UptoSaid'. A law counts once. -/
mutual
def uptoBulk {H : Type} : DataW H → Nat
  | .lit (.string bytes) => bytes.length + 1
  | .lit _ => 1
  | .nil => 1
  | .ptr d => uptoBulk d + 1
  | .slice elems spare => uptoBulkAll elems + uptoBulkAll spare + 1
  | .agg parts => uptoBulkAll parts + 1
  | .iface _ d => uptoBulk d + 1
  | .map entries => uptoBulkEntries entries + 1
  | .held _ => 1
def uptoBulkAll {H : Type} : List (DataW H) → Nat
  | [] => 0
  | d :: r => uptoBulk d + uptoBulkAll r
def uptoBulkEntries {H : Type} : List (Lit × DataW H) → Nat
  | [] => 0
  | x :: r => uptoBulkEntry x + uptoBulkEntries r
def uptoBulkEntry {H : Type} : Lit × DataW H → Nat
  | (.string bytes, d) => bytes.length + uptoBulk d + 1
  | (_, d) => uptoBulk d + 1
 end
def uptoSmall : (H : Type) → List (DataW H) → Bool := fun _ ds => decide (uptoBulkAll ds ≤ 1048576)
def OpenSpec.upto (s : _root_.Go.ChangeSpec) : _root_.Go.OpenSpec := { _root_.Go.OpenSpec.ofChange s with cond := some uptoSmall }

/-- 'understudylaw01.WireWeighs', WHERE WHAT IT READS IS OF BULK AT MOST 1048576: true; the input reads as it did. -/
def wireWeighsUptoRow : OpenClaim := { program := "ytcfcdnoebgdfeaa", sum := "6b80e19a14661611efe2c244a3df74ca6ca32edc43f1bf348aaff2f58d564458", func := "understudy/understudylaw01.WireWeighs", spec := "wireWeighs", apart := false, narrowed := true }
def WireWeighsUptoSaid : Prop := wireWeighsUptoRow.holds Try.pinned (OpenSpec.upto wireWeighsSpec)

/-- 'understudylaw01.WireOrders', WHERE WHAT IT READS IS OF BULK AT MOST 1048576: true; the input reads as it did. -/
def wireOrdersUptoRow : OpenClaim := { program := "ytcfcdnoebgdfeaa", sum := "6b80e19a14661611efe2c244a3df74ca6ca32edc43f1bf348aaff2f58d564458", func := "understudy/understudylaw01.WireOrders", spec := "wireOrders", apart := false, narrowed := true }
def WireOrdersUptoSaid : Prop := wireOrdersUptoRow.holds Try.pinned (OpenSpec.upto wireOrdersSpec)

/-- 'understudylaw01.WireBlobs', WHERE WHAT IT READS IS OF BULK AT MOST 1048576: true; the input reads as it did. -/
def wireBlobsUptoRow : OpenClaim := { program := "ytcfcdnoebgdfeaa", sum := "6b80e19a14661611efe2c244a3df74ca6ca32edc43f1bf348aaff2f58d564458", func := "understudy/understudylaw01.WireBlobs", spec := "wireBlobs", apart := false, narrowed := true }
def WireBlobsUptoSaid : Prop := wireBlobsUptoRow.holds Try.pinned (OpenSpec.upto wireBlobsSpec)

/-- 'understudylaw01.WireWalks', WHERE WHAT IT READS IS OF BULK AT MOST 1048576: true; the input reads as it did. -/
def wireWalksUptoRow : OpenClaim := { program := "ytcfcdnoebgdfeaa", sum := "6b80e19a14661611efe2c244a3df74ca6ca32edc43f1bf348aaff2f58d564458", func := "understudy/understudylaw01.WireWalks", spec := "wireWalks", apart := false, narrowed := true }
def WireWalksUptoSaid : Prop := wireWalksUptoRow.holds Try.pinned (OpenSpec.upto wireWalksSpec)

/-- 'understudylaw01.WireSteps', WHERE WHAT IT READS IS OF BULK AT MOST 1048576: true; the input reads as it did. -/
def wireStepsUptoRow : OpenClaim := { program := "ytcfcdnoebgdfeaa", sum := "6b80e19a14661611efe2c244a3df74ca6ca32edc43f1bf348aaff2f58d564458", func := "understudy/understudylaw01.WireSteps", spec := "wireSteps", apart := false, narrowed := true }
def WireStepsUptoSaid : Prop := wireStepsUptoRow.holds Try.pinned (OpenSpec.upto wireStepsSpec)

/-- 'understudylaw01.WireKeeps', WHERE WHAT IT READS IS OF BULK AT MOST 1048576: true; the input reads as it did. -/
def wireKeepsUptoRow : OpenClaim := { program := "ytcfcdnoebgdfeaa", sum := "6b80e19a14661611efe2c244a3df74ca6ca32edc43f1bf348aaff2f58d564458", func := "understudy/understudylaw01.WireKeeps", spec := "wireKeeps", apart := false, narrowed := true }
def WireKeepsUptoSaid : Prop := wireKeepsUptoRow.holds Try.pinned (OpenSpec.upto wireKeepsSpec)

/-- 'understudylaw01.WireRows', WHERE WHAT IT READS IS OF BULK AT MOST 1048576: true; the input reads as it did. -/
def wireRowsUptoRow : OpenClaim := { program := "ytcfcdnoebgdfeaa", sum := "6b80e19a14661611efe2c244a3df74ca6ca32edc43f1bf348aaff2f58d564458", func := "understudy/understudylaw01.WireRows", spec := "wireRows", inPlace := ["internal/abi.NoEscape", "internal/bytealg.MakeNoZero"], apart := false, narrowed := true }
def WireRowsUptoSaid : Prop := wireRowsUptoRow.holds Try.pinned (OpenSpec.upto wireRowsSpec)

end Rows
end Go.Proofs.Ytcfcdnoebgdfeaa
