/- The opening of a job, and SpecRoots. -/
import Derived.Test.YtfpikpglollkoaaSpR
import Derived.Test.YtfpikpglollkoaaSpL4
