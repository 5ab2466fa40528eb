/- What the pieces of the functions do, as functions of their data. Printed by pack4.py. -/
import Derived.Test.YtaphnbaiamnfpaaDoorPv0
namespace Go.Proofs.YtaphnbaiamnfpaaDoor.Ps
set_option maxHeartbeats 0
set_option maxRecDepth 100000
set_option linter.unusedVariables false
open Go Go.RowKit
open Go.IntKind renaming i64 → iK, u8 → uK
end Go.Proofs.YtaphnbaiamnfpaaDoor.Ps
