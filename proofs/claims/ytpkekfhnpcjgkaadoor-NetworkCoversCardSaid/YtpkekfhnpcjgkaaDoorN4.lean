/- Imports for the join of NetworkCovers. -/
import Derived.Test.YtpkekfhnpcjgkaaDoorN3
import Derived.Test.YtpkekfhnpcjgkaaDoorWE
