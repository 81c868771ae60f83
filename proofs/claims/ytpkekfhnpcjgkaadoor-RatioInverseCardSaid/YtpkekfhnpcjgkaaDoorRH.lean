/- The walks of the laws Orders and Inverse and the words for the joins, together. -/
import Derived.Test.YtpkekfhnpcjgkaaDoorRG
import Derived.Test.YtpkekfhnpcjgkaaDoorN1
