/- What the join of HashRanks stands on. -/
import Derived.Test.YtjjmdgiaohmjkaaDoorHN
import Derived.Test.YtjjmdgiaohmjkaaDoorSL
