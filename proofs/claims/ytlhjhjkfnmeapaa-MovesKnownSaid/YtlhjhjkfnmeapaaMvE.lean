/- The texts behind the closed law of moves. -/
import Derived.Test.YtlhjhjkfnmeapaaMvL
import Derived.Test.YtlhjhjkfnmeapaaRow
