/-
  The walk of FnExactSideOf and its arguments.
-/
import Derived.Test.YtfidhndojkopaaaExSideOf
import Derived.Test.YtfidhndojkopaaaItemArg
import Derived.Test.YtfidhndojkopaaaMoveArg
