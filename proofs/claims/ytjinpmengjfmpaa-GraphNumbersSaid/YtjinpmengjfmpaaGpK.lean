/- The texts behind the law of numbers. -/
import Derived.Test.YtjinpmengjfmpaaGpH
import Derived.Test.YtjinpmengjfmpaaGpR
import Derived.Test.YtjinpmengjfmpaaRow
