/- The opening of the arguments, and RouteTells. -/
import Derived.Test.YtfpikpglollkoaaRtR
import Derived.Test.YtfpikpglollkoaaRtL1
