/-
  The walk of FnExactFirstClash and its arguments.
-/
import Derived.Test.YtfidhndojkopaaaExFirstClash
import Derived.Test.YtfidhndojkopaaaItemArg
import Derived.Test.YtfidhndojkopaaaMoveArg
