/- The laws' walks and the words for the joins, together. -/
import Derived.Test.YtefaojbfoboikaaDoorM
import Derived.Test.YtefaojbfoboikaaDoorN
