/- The walk of the law on delays and the words for the joins, together. -/
import Derived.Test.YtefaojbfoboikaaDoorU
import Derived.Test.YtefaojbfoboikaaDoorN
