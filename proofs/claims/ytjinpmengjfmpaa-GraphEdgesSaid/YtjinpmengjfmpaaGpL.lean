/- The texts behind the law of edges. -/
import Derived.Test.YtjinpmengjfmpaaGpU
import Derived.Test.YtjinpmengjfmpaaGpS
import Derived.Test.YtjinpmengjfmpaaRow
