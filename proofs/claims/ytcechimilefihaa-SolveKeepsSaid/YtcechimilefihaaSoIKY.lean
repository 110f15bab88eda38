/- The row of SolveKeeps: what it imports. -/
import Derived.Test.YtcechimilefihaaSo17Y
import Derived.Test.YtcechimilefihaaSo21Y


