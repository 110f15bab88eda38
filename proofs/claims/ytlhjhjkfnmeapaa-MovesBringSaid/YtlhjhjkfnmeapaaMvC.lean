/- The texts behind the law of moves that bring. -/
import Derived.Test.YtlhjhjkfnmeapaaMvK
import Derived.Test.YtlhjhjkfnmeapaaRow
