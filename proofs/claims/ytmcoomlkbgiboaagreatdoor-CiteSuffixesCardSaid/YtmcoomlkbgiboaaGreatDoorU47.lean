/- The rows of cite. No condition. -/
import Derived.Test.YtmcoomlkbgiboaaGreatDoorU46

set_option linter.all false
namespace Go.Proofs.YtmcoomlkbgiboaaGreatDoor
end Go.Proofs.YtmcoomlkbgiboaaGreatDoor
