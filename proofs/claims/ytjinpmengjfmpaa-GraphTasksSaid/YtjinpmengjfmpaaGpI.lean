/- The texts behind the law of tasks. -/
import Derived.Test.YtjinpmengjfmpaaGp9
import Derived.Test.YtjinpmengjfmpaaGpR
import Derived.Test.YtjinpmengjfmpaaRow
