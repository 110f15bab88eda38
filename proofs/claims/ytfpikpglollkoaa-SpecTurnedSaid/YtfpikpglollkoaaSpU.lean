/- The opening of a job, and SpecTurned. -/
import Derived.Test.YtfpikpglollkoaaSpR
import Derived.Test.YtfpikpglollkoaaSpL5
