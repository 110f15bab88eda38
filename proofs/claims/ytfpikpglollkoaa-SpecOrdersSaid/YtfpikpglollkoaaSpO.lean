/- The opening of a job, and SpecOrders. -/
import Derived.Test.YtfpikpglollkoaaSpR
import Derived.Test.YtfpikpglollkoaaSpL3
