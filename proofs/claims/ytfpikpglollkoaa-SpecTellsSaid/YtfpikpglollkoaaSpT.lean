/- The walks of the laws, together. -/
import Derived.Test.YtfpikpglollkoaaSpR
import Derived.Test.YtfpikpglollkoaaSpL2
