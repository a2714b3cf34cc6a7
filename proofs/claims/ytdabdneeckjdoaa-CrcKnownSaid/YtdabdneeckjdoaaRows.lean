/-
  No cell of these rows narrows 'for every input' (looked for: loops, veiled, ifaces, maps, wideKeys, modest, calm, conditions, laid).
  DERIVED. THE GIVEN ROWS OF THIS SEAT. 7 by the template 'for every input the law returns true; each argument reads behind the call as it read before'; 0 by the template 'total and deterministic' (their statements: YtdabdneeckjdoaaTotals.lean).
  GIVEN WITH THE SEED: the statements are not yours to turn. If you find one false, say at which input.
  Laid BY PROGRAM, IN A SANDBOX (cutbox-rows.mjs): the forced cells as the released guide's own fill.sh prints them over the translation ab56882dac204ec9… (all of the seat's roots in one cut). By AI agents, Wed Nov 11 2026. No macro, syntax, notation, axiom, sorry.
-/
import Derived.Test.YtdabdneeckjdoaaChecked
import GoSem.Claim
import GoSem.ClaimJoined
import GoSem.ClaimMapViews
import Derived.JoinedTies
import Derived.KernelRfl
namespace Go.Proofs.Ytdabdneeckjdoaa
/- THE CELL 'sum', in the pinned program and in every row, IS THE sha256 OF THE DUMP (.gsa) THAT YtdabdneeckjdoaaProg.lean LOADS. Nothing in Lean hashes anything: it is a label: what it is worth is what the hold of that sum in a sandbox is worth. -/
noncomputable def Try.pinned : Pinned := { name := "ytdabdneeckjdoaa", sum := "ab56882dac204ec93074c77c29f3a17c5f2d312de6cfa49bbef6369d91e41e9e", checked := Try.checked }
namespace Rows
def none {H : Type} : Left H := { results := [], args := [] }

/-- 'bowerlaw01.CrcHalves': WHATEVER THE INPUT: true; the input reads as it did. -/
def crcHalvesSpec : ChangeSpec := { name := "crcHalves", fn := fun _ => fun
  | [d1, d2] => { results := [.lit (.bool true)], args := [d1, d2] }
  | _ => none }
def crcHalvesRow : OpenClaim := { program := "ytdabdneeckjdoaa", sum := "ab56882dac204ec93074c77c29f3a17c5f2d312de6cfa49bbef6369d91e41e9e", func := "bower/bowerlaw01.CrcHalves", spec := "crcHalves", unfollowed := true, recurses := true, apart := false }
def CrcHalvesSaid : Prop := crcHalvesRow.holds Try.pinned (OpenSpec.ofChange crcHalvesSpec)

/-- ITS FALSE NEIGHBOUR: 'it returns false'. Refute it at one input. -/
def crcHalvesWrong : ChangeSpec := { name := "crcHalves", fn := fun _ => fun
  | [d1, d2] => { results := [.lit (.bool false)], args := [d1, d2] }
  | _ => none }
def CrcHalvesWrongFalsely : Prop := crcHalvesRow.holds Try.pinned (OpenSpec.ofChange crcHalvesWrong)

/-- 'bowerlaw01.CrcWindows': WHATEVER THE INPUT: true; the input reads as it did. -/
def crcWindowsSpec : ChangeSpec := { name := "crcWindows", fn := fun _ => fun
  | [d1, d2] => { results := [.lit (.bool true)], args := [d1, d2] }
  | _ => none }
def crcWindowsRow : OpenClaim := { program := "ytdabdneeckjdoaa", sum := "ab56882dac204ec93074c77c29f3a17c5f2d312de6cfa49bbef6369d91e41e9e", func := "bower/bowerlaw01.CrcWindows", spec := "crcWindows", unfollowed := true, recurses := true, apart := false }
def CrcWindowsSaid : Prop := crcWindowsRow.holds Try.pinned (OpenSpec.ofChange crcWindowsSpec)

/-- ITS FALSE NEIGHBOUR: 'it returns false'. Refute it at one input. -/
def crcWindowsWrong : ChangeSpec := { name := "crcWindows", fn := fun _ => fun
  | [d1, d2] => { results := [.lit (.bool false)], args := [d1, d2] }
  | _ => none }
def CrcWindowsWrongFalsely : Prop := crcWindowsRow.holds Try.pinned (OpenSpec.ofChange crcWindowsWrong)

/-- 'bowerlaw01.CrcSlides': WHATEVER THE INPUT: true; the input reads as it did. -/
def crcSlidesSpec : ChangeSpec := { name := "crcSlides", fn := fun _ => fun
  | [d1, d2] => { results := [.lit (.bool true)], args := [d1, d2] }
  | _ => none }
def crcSlidesRow : OpenClaim := { program := "ytdabdneeckjdoaa", sum := "ab56882dac204ec93074c77c29f3a17c5f2d312de6cfa49bbef6369d91e41e9e", func := "bower/bowerlaw01.CrcSlides", spec := "crcSlides", unfollowed := true, recurses := true, apart := false }
def CrcSlidesSaid : Prop := crcSlidesRow.holds Try.pinned (OpenSpec.ofChange crcSlidesSpec)

/-- ITS FALSE NEIGHBOUR: 'it returns false'. Refute it at one input. -/
def crcSlidesWrong : ChangeSpec := { name := "crcSlides", fn := fun _ => fun
  | [d1, d2] => { results := [.lit (.bool false)], args := [d1, d2] }
  | _ => none }
def CrcSlidesWrongFalsely : Prop := crcSlidesRow.holds Try.pinned (OpenSpec.ofChange crcSlidesWrong)

/-- 'bowerlaw01.CrcBack': WHATEVER THE INPUT: true; the input reads as it did. -/
def crcBackSpec : ChangeSpec := { name := "crcBack", fn := fun _ => fun
  | [d1, d2, d3] => { results := [.lit (.bool true)], args := [d1, d2, d3] }
  | _ => none }
def crcBackRow : OpenClaim := { program := "ytdabdneeckjdoaa", sum := "ab56882dac204ec93074c77c29f3a17c5f2d312de6cfa49bbef6369d91e41e9e", func := "bower/bowerlaw01.CrcBack", spec := "crcBack", unfollowed := true, recurses := true, apart := false }
def CrcBackSaid : Prop := crcBackRow.holds Try.pinned (OpenSpec.ofChange crcBackSpec)

/-- ITS FALSE NEIGHBOUR: 'it returns false'. Refute it at one input. -/
def crcBackWrong : ChangeSpec := { name := "crcBack", fn := fun _ => fun
  | [d1, d2, d3] => { results := [.lit (.bool false)], args := [d1, d2, d3] }
  | _ => none }
def CrcBackWrongFalsely : Prop := crcBackRow.holds Try.pinned (OpenSpec.ofChange crcBackWrong)

/-- 'bowerlaw01.CrcUnlikes': WHATEVER THE INPUT: true; the input reads as it did. -/
def crcUnlikesSpec : ChangeSpec := { name := "crcUnlikes", fn := fun _ => fun
  | [d1, d2, d3, d4, d5] => { results := [.lit (.bool true)], args := [d1, d2, d3, d4, d5] }
  | _ => none }
def crcUnlikesRow : OpenClaim := { program := "ytdabdneeckjdoaa", sum := "ab56882dac204ec93074c77c29f3a17c5f2d312de6cfa49bbef6369d91e41e9e", func := "bower/bowerlaw01.CrcUnlikes", spec := "crcUnlikes", unfollowed := true, recurses := true, apart := false }
def CrcUnlikesSaid : Prop := crcUnlikesRow.holds Try.pinned (OpenSpec.ofChange crcUnlikesSpec)

/-- ITS FALSE NEIGHBOUR: 'it returns false'. Refute it at one input. -/
def crcUnlikesWrong : ChangeSpec := { name := "crcUnlikes", fn := fun _ => fun
  | [d1, d2, d3, d4, d5] => { results := [.lit (.bool false)], args := [d1, d2, d3, d4, d5] }
  | _ => none }
def CrcUnlikesWrongFalsely : Prop := crcUnlikesRow.holds Try.pinned (OpenSpec.ofChange crcUnlikesWrong)

/-- 'bowerlaw01.CrcTurns': WHATEVER THE INPUT: true; the input reads as it did. -/
def crcTurnsSpec : ChangeSpec := { name := "crcTurns", fn := fun _ => fun
  | [d1, d2, d3] => { results := [.lit (.bool true)], args := [d1, d2, d3] }
  | _ => none }
def crcTurnsRow : OpenClaim := { program := "ytdabdneeckjdoaa", sum := "ab56882dac204ec93074c77c29f3a17c5f2d312de6cfa49bbef6369d91e41e9e", func := "bower/bowerlaw01.CrcTurns", spec := "crcTurns", unfollowed := true, recurses := true, apart := false }
def CrcTurnsSaid : Prop := crcTurnsRow.holds Try.pinned (OpenSpec.ofChange crcTurnsSpec)

/-- ITS FALSE NEIGHBOUR: 'it returns false'. Refute it at one input. -/
def crcTurnsWrong : ChangeSpec := { name := "crcTurns", fn := fun _ => fun
  | [d1, d2, d3] => { results := [.lit (.bool false)], args := [d1, d2, d3] }
  | _ => none }
def CrcTurnsWrongFalsely : Prop := crcTurnsRow.holds Try.pinned (OpenSpec.ofChange crcTurnsWrong)

/-- 'bowerlaw01.CrcKnown': WHATEVER THE INPUT: true; the input reads as it did. -/
def crcKnownSpec : ChangeSpec := { name := "crcKnown", fn := fun _ => fun
  | [] => { results := [.lit (.bool true)], args := [] }
  | _ => none }
def crcKnownRow : OpenClaim := { program := "ytdabdneeckjdoaa", sum := "ab56882dac204ec93074c77c29f3a17c5f2d312de6cfa49bbef6369d91e41e9e", func := "bower/bowerlaw01.CrcKnown", spec := "crcKnown", unfollowed := true, recurses := true, apart := false }
def CrcKnownSaid : Prop := crcKnownRow.holds Try.pinned (OpenSpec.ofChange crcKnownSpec)

/-- ITS FALSE NEIGHBOUR: 'it returns false'. Refute it at one input. -/
def crcKnownWrong : ChangeSpec := { name := "crcKnown", fn := fun _ => fun
  | [] => { results := [.lit (.bool false)], args := [] }
  | _ => none }
def CrcKnownWrongFalsely : Prop := crcKnownRow.holds Try.pinned (OpenSpec.ofChange crcKnownWrong)

/- THE SECOND FORM. 'bulk': how many values and letters a reading holds, each counted each time it is reached (what is shared counts as often as it is met; a slice's spare places count too). A statement '..UptoSaid' is the law's where the arguments, and the package variables that the reading takes, are together of bulk at most 1048576: NARROWER than '..Said'. Prove '..Said' where nothing that the law and all that it calls make is longer than what came in: it says more and counts as full. Else prove '..UptoSaid'. A law counts once. -/
mutual
def uptoBulk {H : Type} : DataW H → Nat
  | .lit (.string bytes) => bytes.length + 1
  | .lit _ => 1
  | .nil => 1
  | .ptr d => uptoBulk d + 1
  | .slice elems spare => uptoBulkAll elems + uptoBulkAll spare + 1
  | .agg parts => uptoBulkAll parts + 1
  | .iface _ d => uptoBulk d + 1
  | .map entries => uptoBulkEntries entries + 1
  | .held _ => 1
def uptoBulkAll {H : Type} : List (DataW H) → Nat
  | [] => 0
  | d :: r => uptoBulk d + uptoBulkAll r
def uptoBulkEntries {H : Type} : List (Lit × DataW H) → Nat
  | [] => 0
  | x :: r => uptoBulkEntry x + uptoBulkEntries r
def uptoBulkEntry {H : Type} : Lit × DataW H → Nat
  | (.string bytes, d) => bytes.length + uptoBulk d + 1
  | (_, d) => uptoBulk d + 1
 end
def uptoSmall : (H : Type) → List (DataW H) → Bool := fun _ ds => decide (uptoBulkAll ds ≤ 1048576)
def OpenSpec.upto (s : _root_.Go.ChangeSpec) : _root_.Go.OpenSpec := { _root_.Go.OpenSpec.ofChange s with cond := some uptoSmall }

/-- 'bowerlaw01.CrcHalves', WHERE WHAT IT READS IS OF BULK AT MOST 1048576: true; the input reads as it did. -/
def crcHalvesUptoRow : OpenClaim := { program := "ytdabdneeckjdoaa", sum := "ab56882dac204ec93074c77c29f3a17c5f2d312de6cfa49bbef6369d91e41e9e", func := "bower/bowerlaw01.CrcHalves", spec := "crcHalves", unfollowed := true, recurses := true, apart := false, narrowed := true }
def CrcHalvesUptoSaid : Prop := crcHalvesUptoRow.holds Try.pinned (OpenSpec.upto crcHalvesSpec)

/-- 'bowerlaw01.CrcWindows', WHERE WHAT IT READS IS OF BULK AT MOST 1048576: true; the input reads as it did. -/
def crcWindowsUptoRow : OpenClaim := { program := "ytdabdneeckjdoaa", sum := "ab56882dac204ec93074c77c29f3a17c5f2d312de6cfa49bbef6369d91e41e9e", func := "bower/bowerlaw01.CrcWindows", spec := "crcWindows", unfollowed := true, recurses := true, apart := false, narrowed := true }
def CrcWindowsUptoSaid : Prop := crcWindowsUptoRow.holds Try.pinned (OpenSpec.upto crcWindowsSpec)

/-- 'bowerlaw01.CrcSlides', WHERE WHAT IT READS IS OF BULK AT MOST 1048576: true; the input reads as it did. -/
def crcSlidesUptoRow : OpenClaim := { program := "ytdabdneeckjdoaa", sum := "ab56882dac204ec93074c77c29f3a17c5f2d312de6cfa49bbef6369d91e41e9e", func := "bower/bowerlaw01.CrcSlides", spec := "crcSlides", unfollowed := true, recurses := true, apart := false, narrowed := true }
def CrcSlidesUptoSaid : Prop := crcSlidesUptoRow.holds Try.pinned (OpenSpec.upto crcSlidesSpec)

/-- 'bowerlaw01.CrcBack', WHERE WHAT IT READS IS OF BULK AT MOST 1048576: true; the input reads as it did. -/
def crcBackUptoRow : OpenClaim := { program := "ytdabdneeckjdoaa", sum := "ab56882dac204ec93074c77c29f3a17c5f2d312de6cfa49bbef6369d91e41e9e", func := "bower/bowerlaw01.CrcBack", spec := "crcBack", unfollowed := true, recurses := true, apart := false, narrowed := true }
def CrcBackUptoSaid : Prop := crcBackUptoRow.holds Try.pinned (OpenSpec.upto crcBackSpec)

/-- 'bowerlaw01.CrcUnlikes', WHERE WHAT IT READS IS OF BULK AT MOST 1048576: true; the input reads as it did. -/
def crcUnlikesUptoRow : OpenClaim := { program := "ytdabdneeckjdoaa", sum := "ab56882dac204ec93074c77c29f3a17c5f2d312de6cfa49bbef6369d91e41e9e", func := "bower/bowerlaw01.CrcUnlikes", spec := "crcUnlikes", unfollowed := true, recurses := true, apart := false, narrowed := true }
def CrcUnlikesUptoSaid : Prop := crcUnlikesUptoRow.holds Try.pinned (OpenSpec.upto crcUnlikesSpec)

/-- 'bowerlaw01.CrcTurns', WHERE WHAT IT READS IS OF BULK AT MOST 1048576: true; the input reads as it did. -/
def crcTurnsUptoRow : OpenClaim := { program := "ytdabdneeckjdoaa", sum := "ab56882dac204ec93074c77c29f3a17c5f2d312de6cfa49bbef6369d91e41e9e", func := "bower/bowerlaw01.CrcTurns", spec := "crcTurns", unfollowed := true, recurses := true, apart := false, narrowed := true }
def CrcTurnsUptoSaid : Prop := crcTurnsUptoRow.holds Try.pinned (OpenSpec.upto crcTurnsSpec)

/-- 'bowerlaw01.CrcKnown', WHERE WHAT IT READS IS OF BULK AT MOST 1048576: true; the input reads as it did. -/
def crcKnownUptoRow : OpenClaim := { program := "ytdabdneeckjdoaa", sum := "ab56882dac204ec93074c77c29f3a17c5f2d312de6cfa49bbef6369d91e41e9e", func := "bower/bowerlaw01.CrcKnown", spec := "crcKnown", unfollowed := true, recurses := true, apart := false, narrowed := true }
def CrcKnownUptoSaid : Prop := crcKnownUptoRow.holds Try.pinned (OpenSpec.upto crcKnownSpec)

end Rows
end Go.Proofs.Ytdabdneeckjdoaa
