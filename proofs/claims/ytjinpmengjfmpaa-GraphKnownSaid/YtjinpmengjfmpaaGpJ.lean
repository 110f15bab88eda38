/- The texts behind the closed law of tasks. -/
import Derived.Test.YtjinpmengjfmpaaGpA
import Derived.Test.YtjinpmengjfmpaaRow
