/- Nothing is compared by the library. -/
import Derived.Test.YtgmgnijklampiaaDoorAm3
import Derived.Test.YtgmgnijklampiaaDoorProg
import Derived.Lib.Strings
import Derived.Lib.Slices
import Derived.Lib.Walk
import Derived.Lib.Bytealg
