/- The walks of four laws and the words for the joins, together. -/
import Derived.Test.YtpkekfhnpcjgkaaDoorRE
import Derived.Test.YtpkekfhnpcjgkaaDoorN1
