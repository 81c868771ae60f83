/- Imports for the join of NetworkFirstMatch. -/
import Derived.Test.YtpkekfhnpcjgkaaDoorN3
import Derived.Test.YtpkekfhnpcjgkaaDoorWF
