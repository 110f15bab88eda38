/- The texts behind the law of what is told. -/
import Derived.Test.YtcechimilefihaaSo17Y


