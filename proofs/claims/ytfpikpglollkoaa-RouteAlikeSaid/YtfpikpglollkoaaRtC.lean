/- The opening of the arguments, and RouteAlike. -/
import Derived.Test.YtfpikpglollkoaaRtR
import Derived.Test.YtfpikpglollkoaaRtL3
