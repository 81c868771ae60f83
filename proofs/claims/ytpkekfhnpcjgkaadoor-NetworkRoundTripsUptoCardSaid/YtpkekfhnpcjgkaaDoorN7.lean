/- Imports for the joins of NetworkTexts and NetworkRoundTrips. -/
import Derived.Test.YtpkekfhnpcjgkaaDoorN2
import Derived.Test.YtpkekfhnpcjgkaaDoorX4
import Derived.JoinedCond
