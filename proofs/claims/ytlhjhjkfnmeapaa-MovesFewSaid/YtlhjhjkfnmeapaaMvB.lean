/- The texts behind the law of few moves. -/
import Derived.Test.YtlhjhjkfnmeapaaMvJ
import Derived.Test.YtlhjhjkfnmeapaaRow
