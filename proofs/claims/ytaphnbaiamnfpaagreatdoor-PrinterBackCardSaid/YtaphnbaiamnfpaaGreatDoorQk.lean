/- The fixed call that every law makes, evaluated. -/
import Derived.Test.YtaphnbaiamnfpaaGreatDoorQw3
namespace Go.Proofs.YtaphnbaiamnfpaaGreatDoor.Ps
set_option linter.unusedSimpArgs false
set_option maxRecDepth 1000000
set_option maxHeartbeats 0
open Go Go.RowKit
theorem ksL (k:Nat):Ak (k+100) false 7 [] []=some (R (dv (.bool true))):=by kernel_rfl
end Go.Proofs.YtaphnbaiamnfpaaGreatDoor.Ps
