/- The walk of the law on jitters and the words for the joins, together. -/
import Derived.Test.YtefaojbfoboikaaDoorO
import Derived.Test.YtefaojbfoboikaaDoorN
