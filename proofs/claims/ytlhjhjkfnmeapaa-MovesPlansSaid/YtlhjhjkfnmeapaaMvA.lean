/- The texts behind the first law of moves. -/
import Derived.Test.YtlhjhjkfnmeapaaMv9
import Derived.Test.YtlhjhjkfnmeapaaRow
