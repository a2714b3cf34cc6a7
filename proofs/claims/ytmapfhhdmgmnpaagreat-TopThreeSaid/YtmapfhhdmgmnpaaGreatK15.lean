import Derived.Test.YtmapfhhdmgmnpaaGreatK12
namespace Go.Ev
open Go Go.Proofs Tryz
set_option maxRecDepth 1000000
set_option maxHeartbeats 4000000
def isT (r : Option (Value × AS)) : Bool := match r with
  | some (.bool true, _) => true
  | _ => false
theorem works_run : isT (callS prog cfgW (memo 14 [vD, vT] A2 v3 (ofL 696 l3) sumS) 60 (.call 8 [] false) ⟨.nil, 0, []⟩) = true := by kernel_rfl
end Go.Ev
