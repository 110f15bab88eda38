/- The opening of the arguments, and RouteOneWay. -/
import Derived.Test.YtfpikpglollkoaaRtR
import Derived.Test.YtfpikpglollkoaaRtL2
