/- Nothing of this is reached. -/
import Derived.Test.YtaphnbaiamnfpaaGreatDoorPv0
namespace Go.Proofs.YtaphnbaiamnfpaaGreatDoor.Ps
end Go.Proofs.YtaphnbaiamnfpaaGreatDoor.Ps
