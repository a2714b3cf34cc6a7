import Derived.Test.YtmapfhhdmgmnpaaGreatK12
namespace Go.Ev
open Go Go.Proofs Tryz
set_option maxRecDepth 1000000
set_option maxHeartbeats 4000000
theorem open_run : ends1 v3 696 l3 (callS prog cfgW sumS 59 (.call 14 [vD, vT] false) A2) = true := by kernel_rfl
end Go.Ev
