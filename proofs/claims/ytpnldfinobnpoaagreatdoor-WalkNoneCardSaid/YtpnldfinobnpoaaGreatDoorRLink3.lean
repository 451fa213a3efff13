/- clevisref16.Link, any format. -/
import Derived.Test.YtpnldfinobnpoaaGreatDoorRLink2
namespace Go.Proofs.YtpnldfinobnpoaaGreatDoor
open Go.RowKit
set_option maxRecDepth 100000

end Go.Proofs.YtpnldfinobnpoaaGreatDoor
