/-
  No cell of these rows narrows 'for every input' (looked for: loops, veiled, ifaces, maps, wideKeys, modest, calm, conditions, laid).
  DERIVED. THE GIVEN ROWS OF THIS SEAT. 4 by the template 'for every input the law returns true; each argument reads behind the call as it read before'; 0 by the template 'total and deterministic' (their statements: YtfheeanpmcgajaaTotals.lean).
  GIVEN WITH THE SEED: the statements are not yours to turn. If you find one false, say at which input.
  Laid BY PROGRAM, IN A SANDBOX (cutbox-rows.mjs): the forced cells as the released guide's own fill.sh prints them over the translation 5d4286f51aa7c970… (all of the seat's roots in one cut). By AI agents, Wed Nov 11 2026. No macro, syntax, notation, axiom, sorry.
-/
import Derived.Test.YtfheeanpmcgajaaChecked
import GoSem.Claim
import GoSem.ClaimJoined
import GoSem.ClaimMapViews
import Derived.JoinedTies
import Derived.KernelRfl
namespace Go.Proofs.Ytfheeanpmcgajaa
/- THE CELL 'sum', in the pinned program and in every row, IS THE sha256 OF THE DUMP (.gsa) THAT YtfheeanpmcgajaaProg.lean LOADS. Nothing in Lean hashes anything: it is a label: what it is worth is what the hold of that sum in a sandbox is worth. -/
noncomputable def Try.pinned : Pinned := { name := "ytfheeanpmcgajaa", sum := "5d4286f51aa7c970ccbc7125dc55e2da56579c43324897e951bf0392820c3732", checked := Try.checked }
namespace Rows
def none {H : Type} : Left H := { results := [], args := [] }

/-- 'understudylaw02.CrcPages': WHATEVER THE INPUT: true; the input reads as it did. -/
def crcPagesSpec : ChangeSpec := { name := "crcPages", fn := fun _ => fun
  | [d1, d2, d3, d4] => { results := [.lit (.bool true)], args := [d1, d2, d3, d4] }
  | _ => none }
def crcPagesRow : OpenClaim := { program := "ytfheeanpmcgajaa", sum := "5d4286f51aa7c970ccbc7125dc55e2da56579c43324897e951bf0392820c3732", func := "understudy/understudylaw02.CrcPages", spec := "crcPages", apart := false }
def CrcPagesSaid : Prop := crcPagesRow.holds Try.pinned (OpenSpec.ofChange crcPagesSpec)

/-- ITS FALSE NEIGHBOUR: 'it returns false'. Refute it at one input. -/
def crcPagesWrong : ChangeSpec := { name := "crcPages", fn := fun _ => fun
  | [d1, d2, d3, d4] => { results := [.lit (.bool false)], args := [d1, d2, d3, d4] }
  | _ => none }
def CrcPagesWrongFalsely : Prop := crcPagesRow.holds Try.pinned (OpenSpec.ofChange crcPagesWrong)

/-- 'understudylaw02.CrcRecords': WHATEVER THE INPUT: true; the input reads as it did. -/
def crcRecordsSpec : ChangeSpec := { name := "crcRecords", fn := fun _ => fun
  | [d1, d2] => { results := [.lit (.bool true)], args := [d1, d2] }
  | _ => none }
def crcRecordsRow : OpenClaim := { program := "ytfheeanpmcgajaa", sum := "5d4286f51aa7c970ccbc7125dc55e2da56579c43324897e951bf0392820c3732", func := "understudy/understudylaw02.CrcRecords", spec := "crcRecords", apart := false }
def CrcRecordsSaid : Prop := crcRecordsRow.holds Try.pinned (OpenSpec.ofChange crcRecordsSpec)

/-- ITS FALSE NEIGHBOUR: 'it returns false'. Refute it at one input. -/
def crcRecordsWrong : ChangeSpec := { name := "crcRecords", fn := fun _ => fun
  | [d1, d2] => { results := [.lit (.bool false)], args := [d1, d2] }
  | _ => none }
def CrcRecordsWrongFalsely : Prop := crcRecordsRow.holds Try.pinned (OpenSpec.ofChange crcRecordsWrong)

/-- 'understudylaw02.CrcHoles': WHATEVER THE INPUT: true; the input reads as it did. -/
def crcHolesSpec : ChangeSpec := { name := "crcHoles", fn := fun _ => fun
  | [d1, d2, d3, d4] => { results := [.lit (.bool true)], args := [d1, d2, d3, d4] }
  | _ => none }
def crcHolesRow : OpenClaim := { program := "ytfheeanpmcgajaa", sum := "5d4286f51aa7c970ccbc7125dc55e2da56579c43324897e951bf0392820c3732", func := "understudy/understudylaw02.CrcHoles", spec := "crcHoles", apart := false }
def CrcHolesSaid : Prop := crcHolesRow.holds Try.pinned (OpenSpec.ofChange crcHolesSpec)

/-- ITS FALSE NEIGHBOUR: 'it returns false'. Refute it at one input. -/
def crcHolesWrong : ChangeSpec := { name := "crcHoles", fn := fun _ => fun
  | [d1, d2, d3, d4] => { results := [.lit (.bool false)], args := [d1, d2, d3, d4] }
  | _ => none }
def CrcHolesWrongFalsely : Prop := crcHolesRow.holds Try.pinned (OpenSpec.ofChange crcHolesWrong)

/-- 'understudylaw02.CrcRots': WHATEVER THE INPUT: true; the input reads as it did. -/
def crcRotsSpec : ChangeSpec := { name := "crcRots", fn := fun _ => fun
  | [d1, d2, d3, d4, d5, d6] => { results := [.lit (.bool true)], args := [d1, d2, d3, d4, d5, d6] }
  | _ => none }
def crcRotsRow : OpenClaim := { program := "ytfheeanpmcgajaa", sum := "5d4286f51aa7c970ccbc7125dc55e2da56579c43324897e951bf0392820c3732", func := "understudy/understudylaw02.CrcRots", spec := "crcRots", apart := false }
def CrcRotsSaid : Prop := crcRotsRow.holds Try.pinned (OpenSpec.ofChange crcRotsSpec)

/-- ITS FALSE NEIGHBOUR: 'it returns false'. Refute it at one input. -/
def crcRotsWrong : ChangeSpec := { name := "crcRots", fn := fun _ => fun
  | [d1, d2, d3, d4, d5, d6] => { results := [.lit (.bool false)], args := [d1, d2, d3, d4, d5, d6] }
  | _ => none }
def CrcRotsWrongFalsely : Prop := crcRotsRow.holds Try.pinned (OpenSpec.ofChange crcRotsWrong)

/- THE SECOND FORM. 'bulk': how many values and letters a reading holds, each counted each time it is reached (what is shared counts as often as it is met; a slice's spare places count too). A statement '..UptoSaid' is the law's where the arguments, and the package variables that the reading takes, are together of bulk at most 1048576: NARROWER than '..Said'. Prove '..Said' where nothing that the law and all that it calls make is longer than what came in: it says more and counts as full. Else prove '..UptoSaid'. A law counts once. -/
mutual
def uptoBulk {H : Type} : DataW H → Nat
  | .lit (.string bytes) => bytes.length + 1
  | .lit _ => 1
  | .nil => 1
  | .ptr d => uptoBulk d + 1
  | .slice elems spare => uptoBulkAll elems + uptoBulkAll spare + 1
  | .agg parts => uptoBulkAll parts + 1
  | .iface _ d => uptoBulk d + 1
  | .map entries => uptoBulkEntries entries + 1
  | .held _ => 1
def uptoBulkAll {H : Type} : List (DataW H) → Nat
  | [] => 0
  | d :: r => uptoBulk d + uptoBulkAll r
def uptoBulkEntries {H : Type} : List (Lit × DataW H) → Nat
  | [] => 0
  | x :: r => uptoBulkEntry x + uptoBulkEntries r
def uptoBulkEntry {H : Type} : Lit × DataW H → Nat
  | (.string bytes, d) => bytes.length + uptoBulk d + 1
  | (_, d) => uptoBulk d + 1
 end
def uptoSmall : (H : Type) → List (DataW H) → Bool := fun _ ds => decide (uptoBulkAll ds ≤ 1048576)
def OpenSpec.upto (s : _root_.Go.ChangeSpec) : _root_.Go.OpenSpec := { _root_.Go.OpenSpec.ofChange s with cond := some uptoSmall }

/-- 'understudylaw02.CrcPages', WHERE WHAT IT READS IS OF BULK AT MOST 1048576: true; the input reads as it did. -/
def crcPagesUptoRow : OpenClaim := { program := "ytfheeanpmcgajaa", sum := "5d4286f51aa7c970ccbc7125dc55e2da56579c43324897e951bf0392820c3732", func := "understudy/understudylaw02.CrcPages", spec := "crcPages", apart := false, narrowed := true }
def CrcPagesUptoSaid : Prop := crcPagesUptoRow.holds Try.pinned (OpenSpec.upto crcPagesSpec)

/-- 'understudylaw02.CrcRecords', WHERE WHAT IT READS IS OF BULK AT MOST 1048576: true; the input reads as it did. -/
def crcRecordsUptoRow : OpenClaim := { program := "ytfheeanpmcgajaa", sum := "5d4286f51aa7c970ccbc7125dc55e2da56579c43324897e951bf0392820c3732", func := "understudy/understudylaw02.CrcRecords", spec := "crcRecords", apart := false, narrowed := true }
def CrcRecordsUptoSaid : Prop := crcRecordsUptoRow.holds Try.pinned (OpenSpec.upto crcRecordsSpec)

/-- 'understudylaw02.CrcHoles', WHERE WHAT IT READS IS OF BULK AT MOST 1048576: true; the input reads as it did. -/
def crcHolesUptoRow : OpenClaim := { program := "ytfheeanpmcgajaa", sum := "5d4286f51aa7c970ccbc7125dc55e2da56579c43324897e951bf0392820c3732", func := "understudy/understudylaw02.CrcHoles", spec := "crcHoles", apart := false, narrowed := true }
def CrcHolesUptoSaid : Prop := crcHolesUptoRow.holds Try.pinned (OpenSpec.upto crcHolesSpec)

/-- 'understudylaw02.CrcRots', WHERE WHAT IT READS IS OF BULK AT MOST 1048576: true; the input reads as it did. -/
def crcRotsUptoRow : OpenClaim := { program := "ytfheeanpmcgajaa", sum := "5d4286f51aa7c970ccbc7125dc55e2da56579c43324897e951bf0392820c3732", func := "understudy/understudylaw02.CrcRots", spec := "crcRots", apart := false, narrowed := true }
def CrcRotsUptoSaid : Prop := crcRotsUptoRow.holds Try.pinned (OpenSpec.upto crcRotsSpec)

end Rows
end Go.Proofs.Ytfheeanpmcgajaa
