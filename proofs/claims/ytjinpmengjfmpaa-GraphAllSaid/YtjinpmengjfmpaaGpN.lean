/- The texts behind the law of all edges. -/
import Derived.Test.YtjinpmengjfmpaaGpZ
import Derived.Test.YtjinpmengjfmpaaGpS
import Derived.Test.YtjinpmengjfmpaaRow
