/- The texts behind the law of rises. -/
import Derived.Test.YtjinpmengjfmpaaGpW
import Derived.Test.YtjinpmengjfmpaaGpS
import Derived.Test.YtjinpmengjfmpaaRow
