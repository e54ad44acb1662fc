/-
  The walk of FnExactRowsAfter and its arguments.
-/
import Derived.Test.YtfidhndojkopaaaExRowsAfter
import Derived.Test.YtfidhndojkopaaaItemArg
import Derived.Test.YtfidhndojkopaaaMoveArg
