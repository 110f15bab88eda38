/- The opening of the arguments, and RouteHalves. -/
import Derived.Test.YtfpikpglollkoaaRtR
import Derived.Test.YtfpikpglollkoaaRtL4
