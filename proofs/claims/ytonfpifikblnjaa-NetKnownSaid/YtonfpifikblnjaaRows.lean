/-
  No cell of these rows narrows 'for every input' (looked for: loops, veiled, ifaces, maps, wideKeys, modest, calm, conditions, laid).
  DERIVED. THE GIVEN ROWS OF THIS SEAT. 6 by the template 'for every input the law returns true; each argument reads behind the call as it read before'; 0 by the template 'total and deterministic' (their statements: YtonfpifikblnjaaTotals.lean).
  GIVEN WITH THE SEED: the statements are not yours to turn. If you find one false, say at which input.
  Laid BY PROGRAM, IN A SANDBOX (cutbox-rows.mjs): the forced cells as the released guide's own fill.sh prints them over the translation 4b1ea9b4c237e43e… (all of the seat's roots in one cut). By AI agents, Wed Nov 11 2026. No macro, syntax, notation, axiom, sorry.
-/
import Derived.Test.YtonfpifikblnjaaChecked
import GoSem.Claim
import GoSem.ClaimJoined
import GoSem.ClaimMapViews
import Derived.JoinedTies
import Derived.KernelRfl
namespace Go.Proofs.Ytonfpifikblnjaa
/- THE CELL 'sum', in the pinned program and in every row, IS THE sha256 OF THE DUMP (.gsa) THAT YtonfpifikblnjaaProg.lean LOADS. Nothing in Lean hashes anything: it is a label: what it is worth is what the hold of that sum in a sandbox is worth. -/
noncomputable def Try.pinned : Pinned := { name := "ytonfpifikblnjaa", sum := "4b1ea9b4c237e43ee36489a04019f7f3ae72d38b27bcbd9bc4b354cff823c04c", checked := Try.checked }
namespace Rows
def none {H : Type} : Left H := { results := [], args := [] }

/-- 'bowerlaw18.NetFair': WHATEVER THE INPUT: true; the input reads as it did. -/
def netFairSpec : ChangeSpec := { name := "netFair", fn := fun _ => fun
  | [d1, d2, d3] => { results := [.lit (.bool true)], args := [d1, d2, d3] }
  | _ => none }
def netFairRow : OpenClaim := { program := "ytonfpifikblnjaa", sum := "4b1ea9b4c237e43ee36489a04019f7f3ae72d38b27bcbd9bc4b354cff823c04c", func := "bower/bowerlaw18.NetFair", spec := "netFair", apart := false }
def NetFairSaid : Prop := netFairRow.holds Try.pinned (OpenSpec.ofChange netFairSpec)

/-- ITS FALSE NEIGHBOUR: 'it returns false'. Refute it at one input. -/
def netFairWrong : ChangeSpec := { name := "netFair", fn := fun _ => fun
  | [d1, d2, d3] => { results := [.lit (.bool false)], args := [d1, d2, d3] }
  | _ => none }
def NetFairWrongFalsely : Prop := netFairRow.holds Try.pinned (OpenSpec.ofChange netFairWrong)

/-- 'bowerlaw18.NetSays': WHATEVER THE INPUT: true; the input reads as it did. -/
def netSaysSpec : ChangeSpec := { name := "netSays", fn := fun _ => fun
  | [d1, d2] => { results := [.lit (.bool true)], args := [d1, d2] }
  | _ => none }
def netSaysRow : OpenClaim := { program := "ytonfpifikblnjaa", sum := "4b1ea9b4c237e43ee36489a04019f7f3ae72d38b27bcbd9bc4b354cff823c04c", func := "bower/bowerlaw18.NetSays", spec := "netSays", apart := false }
def NetSaysSaid : Prop := netSaysRow.holds Try.pinned (OpenSpec.ofChange netSaysSpec)

/-- ITS FALSE NEIGHBOUR: 'it returns false'. Refute it at one input. -/
def netSaysWrong : ChangeSpec := { name := "netSays", fn := fun _ => fun
  | [d1, d2] => { results := [.lit (.bool false)], args := [d1, d2] }
  | _ => none }
def NetSaysWrongFalsely : Prop := netSaysRow.holds Try.pinned (OpenSpec.ofChange netSaysWrong)

/-- 'bowerlaw18.NetTrue': WHATEVER THE INPUT: true; the input reads as it did. -/
def netTrueSpec : ChangeSpec := { name := "netTrue", fn := fun _ => fun
  | [d1, d2] => { results := [.lit (.bool true)], args := [d1, d2] }
  | _ => none }
def netTrueRow : OpenClaim := { program := "ytonfpifikblnjaa", sum := "4b1ea9b4c237e43ee36489a04019f7f3ae72d38b27bcbd9bc4b354cff823c04c", func := "bower/bowerlaw18.NetTrue", spec := "netTrue", apart := false }
def NetTrueSaid : Prop := netTrueRow.holds Try.pinned (OpenSpec.ofChange netTrueSpec)

/-- ITS FALSE NEIGHBOUR: 'it returns false'. Refute it at one input. -/
def netTrueWrong : ChangeSpec := { name := "netTrue", fn := fun _ => fun
  | [d1, d2] => { results := [.lit (.bool false)], args := [d1, d2] }
  | _ => none }
def NetTrueWrongFalsely : Prop := netTrueRow.holds Try.pinned (OpenSpec.ofChange netTrueWrong)

/-- 'bowerlaw18.NetCount': WHATEVER THE INPUT: true; the input reads as it did. -/
def netCountSpec : ChangeSpec := { name := "netCount", fn := fun _ => fun
  | [d1, d2] => { results := [.lit (.bool true)], args := [d1, d2] }
  | _ => none }
def netCountRow : OpenClaim := { program := "ytonfpifikblnjaa", sum := "4b1ea9b4c237e43ee36489a04019f7f3ae72d38b27bcbd9bc4b354cff823c04c", func := "bower/bowerlaw18.NetCount", spec := "netCount", apart := false }
def NetCountSaid : Prop := netCountRow.holds Try.pinned (OpenSpec.ofChange netCountSpec)

/-- ITS FALSE NEIGHBOUR: 'it returns false'. Refute it at one input. -/
def netCountWrong : ChangeSpec := { name := "netCount", fn := fun _ => fun
  | [d1, d2] => { results := [.lit (.bool false)], args := [d1, d2] }
  | _ => none }
def NetCountWrongFalsely : Prop := netCountRow.holds Try.pinned (OpenSpec.ofChange netCountWrong)

/-- 'bowerlaw18.NetTurns': WHATEVER THE INPUT: true; the input reads as it did. -/
def netTurnsSpec : ChangeSpec := { name := "netTurns", fn := fun _ => fun
  | [d1, d2, d3] => { results := [.lit (.bool true)], args := [d1, d2, d3] }
  | _ => none }
def netTurnsRow : OpenClaim := { program := "ytonfpifikblnjaa", sum := "4b1ea9b4c237e43ee36489a04019f7f3ae72d38b27bcbd9bc4b354cff823c04c", func := "bower/bowerlaw18.NetTurns", spec := "netTurns", apart := false }
def NetTurnsSaid : Prop := netTurnsRow.holds Try.pinned (OpenSpec.ofChange netTurnsSpec)

/-- ITS FALSE NEIGHBOUR: 'it returns false'. Refute it at one input. -/
def netTurnsWrong : ChangeSpec := { name := "netTurns", fn := fun _ => fun
  | [d1, d2, d3] => { results := [.lit (.bool false)], args := [d1, d2, d3] }
  | _ => none }
def NetTurnsWrongFalsely : Prop := netTurnsRow.holds Try.pinned (OpenSpec.ofChange netTurnsWrong)

/-- 'bowerlaw18.NetKnown': WHATEVER THE INPUT: true; the input reads as it did. -/
def netKnownSpec : ChangeSpec := { name := "netKnown", fn := fun _ => fun
  | [] => { results := [.lit (.bool true)], args := [] }
  | _ => none }
def netKnownRow : OpenClaim := { program := "ytonfpifikblnjaa", sum := "4b1ea9b4c237e43ee36489a04019f7f3ae72d38b27bcbd9bc4b354cff823c04c", func := "bower/bowerlaw18.NetKnown", spec := "netKnown", apart := false }
def NetKnownSaid : Prop := netKnownRow.holds Try.pinned (OpenSpec.ofChange netKnownSpec)

/-- ITS FALSE NEIGHBOUR: 'it returns false'. Refute it at one input. -/
def netKnownWrong : ChangeSpec := { name := "netKnown", fn := fun _ => fun
  | [] => { results := [.lit (.bool false)], args := [] }
  | _ => none }
def NetKnownWrongFalsely : Prop := netKnownRow.holds Try.pinned (OpenSpec.ofChange netKnownWrong)

/- THE SECOND FORM. 'bulk': how many values and letters a reading holds, each counted each time it is reached (what is shared counts as often as it is met; a slice's spare places count too). A statement '..UptoSaid' is the law's where the arguments, and the package variables that the reading takes, are together of bulk at most 1048576: NARROWER than '..Said'. Prove '..Said' where nothing that the law and all that it calls make is longer than what came in: it says more and counts as full. Else prove '..UptoSaid'. A law counts once. -/
mutual
def uptoBulk {H : Type} : DataW H → Nat
  | .lit (.string bytes) => bytes.length + 1
  | .lit _ => 1
  | .nil => 1
  | .ptr d => uptoBulk d + 1
  | .slice elems spare => uptoBulkAll elems + uptoBulkAll spare + 1
  | .agg parts => uptoBulkAll parts + 1
  | .iface _ d => uptoBulk d + 1
  | .map entries => uptoBulkEntries entries + 1
  | .held _ => 1
def uptoBulkAll {H : Type} : List (DataW H) → Nat
  | [] => 0
  | d :: r => uptoBulk d + uptoBulkAll r
def uptoBulkEntries {H : Type} : List (Lit × DataW H) → Nat
  | [] => 0
  | x :: r => uptoBulkEntry x + uptoBulkEntries r
def uptoBulkEntry {H : Type} : Lit × DataW H → Nat
  | (.string bytes, d) => bytes.length + uptoBulk d + 1
  | (_, d) => uptoBulk d + 1
 end
def uptoSmall : (H : Type) → List (DataW H) → Bool := fun _ ds => decide (uptoBulkAll ds ≤ 1048576)
def OpenSpec.upto (s : _root_.Go.ChangeSpec) : _root_.Go.OpenSpec := { _root_.Go.OpenSpec.ofChange s with cond := some uptoSmall }

/-- 'bowerlaw18.NetFair', WHERE WHAT IT READS IS OF BULK AT MOST 1048576: true; the input reads as it did. -/
def netFairUptoRow : OpenClaim := { program := "ytonfpifikblnjaa", sum := "4b1ea9b4c237e43ee36489a04019f7f3ae72d38b27bcbd9bc4b354cff823c04c", func := "bower/bowerlaw18.NetFair", spec := "netFair", apart := false, narrowed := true }
def NetFairUptoSaid : Prop := netFairUptoRow.holds Try.pinned (OpenSpec.upto netFairSpec)

/-- 'bowerlaw18.NetSays', WHERE WHAT IT READS IS OF BULK AT MOST 1048576: true; the input reads as it did. -/
def netSaysUptoRow : OpenClaim := { program := "ytonfpifikblnjaa", sum := "4b1ea9b4c237e43ee36489a04019f7f3ae72d38b27bcbd9bc4b354cff823c04c", func := "bower/bowerlaw18.NetSays", spec := "netSays", apart := false, narrowed := true }
def NetSaysUptoSaid : Prop := netSaysUptoRow.holds Try.pinned (OpenSpec.upto netSaysSpec)

/-- 'bowerlaw18.NetTrue', WHERE WHAT IT READS IS OF BULK AT MOST 1048576: true; the input reads as it did. -/
def netTrueUptoRow : OpenClaim := { program := "ytonfpifikblnjaa", sum := "4b1ea9b4c237e43ee36489a04019f7f3ae72d38b27bcbd9bc4b354cff823c04c", func := "bower/bowerlaw18.NetTrue", spec := "netTrue", apart := false, narrowed := true }
def NetTrueUptoSaid : Prop := netTrueUptoRow.holds Try.pinned (OpenSpec.upto netTrueSpec)

/-- 'bowerlaw18.NetCount', WHERE WHAT IT READS IS OF BULK AT MOST 1048576: true; the input reads as it did. -/
def netCountUptoRow : OpenClaim := { program := "ytonfpifikblnjaa", sum := "4b1ea9b4c237e43ee36489a04019f7f3ae72d38b27bcbd9bc4b354cff823c04c", func := "bower/bowerlaw18.NetCount", spec := "netCount", apart := false, narrowed := true }
def NetCountUptoSaid : Prop := netCountUptoRow.holds Try.pinned (OpenSpec.upto netCountSpec)

/-- 'bowerlaw18.NetTurns', WHERE WHAT IT READS IS OF BULK AT MOST 1048576: true; the input reads as it did. -/
def netTurnsUptoRow : OpenClaim := { program := "ytonfpifikblnjaa", sum := "4b1ea9b4c237e43ee36489a04019f7f3ae72d38b27bcbd9bc4b354cff823c04c", func := "bower/bowerlaw18.NetTurns", spec := "netTurns", apart := false, narrowed := true }
def NetTurnsUptoSaid : Prop := netTurnsUptoRow.holds Try.pinned (OpenSpec.upto netTurnsSpec)

/-- 'bowerlaw18.NetKnown', WHERE WHAT IT READS IS OF BULK AT MOST 1048576: true; the input reads as it did. -/
def netKnownUptoRow : OpenClaim := { program := "ytonfpifikblnjaa", sum := "4b1ea9b4c237e43ee36489a04019f7f3ae72d38b27bcbd9bc4b354cff823c04c", func := "bower/bowerlaw18.NetKnown", spec := "netKnown", apart := false, narrowed := true }
def NetKnownUptoSaid : Prop := netKnownUptoRow.holds Try.pinned (OpenSpec.upto netKnownSpec)

end Rows
end Go.Proofs.Ytonfpifikblnjaa
