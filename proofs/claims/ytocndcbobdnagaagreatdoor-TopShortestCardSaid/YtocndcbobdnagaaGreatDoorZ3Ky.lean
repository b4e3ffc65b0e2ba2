/-
  The contracts proved by hand.
-/
import Derived.Test.YtocndcbobdnagaaGreatDoorZ3Ka
import Derived.Test.YtocndcbobdnagaaGreatDoorZ3Kt
import Derived.Test.YtocndcbobdnagaaGreatDoorZ3Ks
import Derived.Test.YtocndcbobdnagaaGreatDoorZ3Mt
set_option linter.all false
