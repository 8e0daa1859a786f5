/- The examples of layer 17 walked. -/
import Derived.Test.YtpgdplmndnopbaaGreatDoorMgI
import Derived.Test.YtpgdplmndnopbaaGreatDoorPsX
import Derived.Test.YtpgdplmndnopbaaGreatDoorMgM
namespace Go.Proofs.YtpgdplmndnopbaaGreatDoor
open Go.RowKit
end Go.Proofs.YtpgdplmndnopbaaGreatDoor