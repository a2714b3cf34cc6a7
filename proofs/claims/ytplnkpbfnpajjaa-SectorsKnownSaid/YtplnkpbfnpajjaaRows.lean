/-
  No cell of these rows narrows 'for every input' (looked for: loops, veiled, ifaces, maps, wideKeys, modest, calm, conditions, laid).
  DERIVED. THE GIVEN ROWS OF THIS SEAT. 3 by the template 'for every input the law returns true; each argument reads behind the call as it read before'; 0 by the template 'total and deterministic' (their statements: YtplnkpbfnpajjaaTotals.lean).
  GIVEN WITH THE SEED: the statements are not yours to turn. If you find one false, say at which input.
  Laid BY PROGRAM, IN A SANDBOX (cutbox-rows.mjs): the forced cells as the released guide's own fill.sh prints them over the translation 17f5e8e1cabe8b2c… (all of the seat's roots in one cut). By AI agents, Wed Nov 11 2026. No macro, syntax, notation, axiom, sorry.
-/
import Derived.Test.YtplnkpbfnpajjaaChecked
import GoSem.Claim
import GoSem.ClaimJoined
import GoSem.ClaimMapViews
import Derived.JoinedTies
import Derived.KernelRfl
namespace Go.Proofs.Ytplnkpbfnpajjaa
/- THE CELL 'sum', in the pinned program and in every row, IS THE sha256 OF THE DUMP (.gsa) THAT YtplnkpbfnpajjaaProg.lean LOADS. Nothing in Lean hashes anything: it is a label: what it is worth is what the hold of that sum in a sandbox is worth. -/
noncomputable def Try.pinned : Pinned := { name := "ytplnkpbfnpajjaa", sum := "17f5e8e1cabe8b2cedf3742456de854b38e2004b3f0fe221d3700bbf84ecc26a", checked := Try.checked }
namespace Rows
def none {H : Type} : Left H := { results := [], args := [] }

/-- 'bowerlaw02.SectorsCuts': WHATEVER THE INPUT: true; the input reads as it did. -/
def sectorsCutsSpec : ChangeSpec := { name := "sectorsCuts", fn := fun _ => fun
  | [d1, d2] => { results := [.lit (.bool true)], args := [d1, d2] }
  | _ => none }
def sectorsCutsRow : OpenClaim := { program := "ytplnkpbfnpajjaa", sum := "17f5e8e1cabe8b2cedf3742456de854b38e2004b3f0fe221d3700bbf84ecc26a", func := "bower/bowerlaw02.SectorsCuts", spec := "sectorsCuts", inPlace := ["maps.clone"], apart := false }
def SectorsCutsSaid : Prop := sectorsCutsRow.holds Try.pinned (OpenSpec.ofChange sectorsCutsSpec)

/-- ITS FALSE NEIGHBOUR: 'it returns false'. Refute it at one input. -/
def sectorsCutsWrong : ChangeSpec := { name := "sectorsCuts", fn := fun _ => fun
  | [d1, d2] => { results := [.lit (.bool false)], args := [d1, d2] }
  | _ => none }
def SectorsCutsWrongFalsely : Prop := sectorsCutsRow.holds Try.pinned (OpenSpec.ofChange sectorsCutsWrong)

/-- 'bowerlaw02.SectorsPlays': WHATEVER THE INPUT: true; the input reads as it did. -/
def sectorsPlaysSpec : ChangeSpec := { name := "sectorsPlays", fn := fun _ => fun
  | [d1, d2] => { results := [.lit (.bool true)], args := [d1, d2] }
  | _ => none }
def sectorsPlaysRow : OpenClaim := { program := "ytplnkpbfnpajjaa", sum := "17f5e8e1cabe8b2cedf3742456de854b38e2004b3f0fe221d3700bbf84ecc26a", func := "bower/bowerlaw02.SectorsPlays", spec := "sectorsPlays", inPlace := ["maps.clone"], apart := false }
def SectorsPlaysSaid : Prop := sectorsPlaysRow.holds Try.pinned (OpenSpec.ofChange sectorsPlaysSpec)

/-- ITS FALSE NEIGHBOUR: 'it returns false'. Refute it at one input. -/
def sectorsPlaysWrong : ChangeSpec := { name := "sectorsPlays", fn := fun _ => fun
  | [d1, d2] => { results := [.lit (.bool false)], args := [d1, d2] }
  | _ => none }
def SectorsPlaysWrongFalsely : Prop := sectorsPlaysRow.holds Try.pinned (OpenSpec.ofChange sectorsPlaysWrong)

/-- 'bowerlaw02.SectorsKnown': WHATEVER THE INPUT: true; the input reads as it did. -/
def sectorsKnownSpec : ChangeSpec := { name := "sectorsKnown", fn := fun _ => fun
  | [] => { results := [.lit (.bool true)], args := [] }
  | _ => none }
def sectorsKnownRow : OpenClaim := { program := "ytplnkpbfnpajjaa", sum := "17f5e8e1cabe8b2cedf3742456de854b38e2004b3f0fe221d3700bbf84ecc26a", func := "bower/bowerlaw02.SectorsKnown", spec := "sectorsKnown", inPlace := ["maps.clone"], apart := false }
def SectorsKnownSaid : Prop := sectorsKnownRow.holds Try.pinned (OpenSpec.ofChange sectorsKnownSpec)

/-- ITS FALSE NEIGHBOUR: 'it returns false'. Refute it at one input. -/
def sectorsKnownWrong : ChangeSpec := { name := "sectorsKnown", fn := fun _ => fun
  | [] => { results := [.lit (.bool false)], args := [] }
  | _ => none }
def SectorsKnownWrongFalsely : Prop := sectorsKnownRow.holds Try.pinned (OpenSpec.ofChange sectorsKnownWrong)

/- THE SECOND FORM. 'bulk': how many values and letters a reading holds, each counted each time it is reached (what is shared counts as often as it is met; a slice's spare places count too). A statement '..UptoSaid' is the law's where the arguments, and the package variables that the reading takes, are together of bulk at most 1048576: NARROWER than '..Said'. Prove '..Said' where nothing that the law and all that it calls make is longer than what came in: it says more and counts as full. Else prove '..UptoSaid'. A law counts once. -/
mutual
def uptoBulk {H : Type} : DataW H → Nat
  | .lit (.string bytes) => bytes.length + 1
  | .lit _ => 1
  | .nil => 1
  | .ptr d => uptoBulk d + 1
  | .slice elems spare => uptoBulkAll elems + uptoBulkAll spare + 1
  | .agg parts => uptoBulkAll parts + 1
  | .iface _ d => uptoBulk d + 1
  | .map entries => uptoBulkEntries entries + 1
  | .held _ => 1
def uptoBulkAll {H : Type} : List (DataW H) → Nat
  | [] => 0
  | d :: r => uptoBulk d + uptoBulkAll r
def uptoBulkEntries {H : Type} : List (Lit × DataW H) → Nat
  | [] => 0
  | x :: r => uptoBulkEntry x + uptoBulkEntries r
def uptoBulkEntry {H : Type} : Lit × DataW H → Nat
  | (.string bytes, d) => bytes.length + uptoBulk d + 1
  | (_, d) => uptoBulk d + 1
 end
def uptoSmall : (H : Type) → List (DataW H) → Bool := fun _ ds => decide (uptoBulkAll ds ≤ 1048576)
def OpenSpec.upto (s : _root_.Go.ChangeSpec) : _root_.Go.OpenSpec := { _root_.Go.OpenSpec.ofChange s with cond := some uptoSmall }

/-- 'bowerlaw02.SectorsCuts', WHERE WHAT IT READS IS OF BULK AT MOST 1048576: true; the input reads as it did. -/
def sectorsCutsUptoRow : OpenClaim := { program := "ytplnkpbfnpajjaa", sum := "17f5e8e1cabe8b2cedf3742456de854b38e2004b3f0fe221d3700bbf84ecc26a", func := "bower/bowerlaw02.SectorsCuts", spec := "sectorsCuts", inPlace := ["maps.clone"], apart := false, narrowed := true }
def SectorsCutsUptoSaid : Prop := sectorsCutsUptoRow.holds Try.pinned (OpenSpec.upto sectorsCutsSpec)

/-- 'bowerlaw02.SectorsPlays', WHERE WHAT IT READS IS OF BULK AT MOST 1048576: true; the input reads as it did. -/
def sectorsPlaysUptoRow : OpenClaim := { program := "ytplnkpbfnpajjaa", sum := "17f5e8e1cabe8b2cedf3742456de854b38e2004b3f0fe221d3700bbf84ecc26a", func := "bower/bowerlaw02.SectorsPlays", spec := "sectorsPlays", inPlace := ["maps.clone"], apart := false, narrowed := true }
def SectorsPlaysUptoSaid : Prop := sectorsPlaysUptoRow.holds Try.pinned (OpenSpec.upto sectorsPlaysSpec)

/-- 'bowerlaw02.SectorsKnown', WHERE WHAT IT READS IS OF BULK AT MOST 1048576: true; the input reads as it did. -/
def sectorsKnownUptoRow : OpenClaim := { program := "ytplnkpbfnpajjaa", sum := "17f5e8e1cabe8b2cedf3742456de854b38e2004b3f0fe221d3700bbf84ecc26a", func := "bower/bowerlaw02.SectorsKnown", spec := "sectorsKnown", inPlace := ["maps.clone"], apart := false, narrowed := true }
def SectorsKnownUptoSaid : Prop := sectorsKnownUptoRow.holds Try.pinned (OpenSpec.upto sectorsKnownSpec)

end Rows
end Go.Proofs.Ytplnkpbfnpajjaa
