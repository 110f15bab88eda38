/- The row of SolveSteady: what it imports. -/
import Derived.Test.YtcechimilefihaaSo17Y
import Derived.Test.YtcechimilefihaaSo20Y


