/-
  The walk of FnExactBuildOnline and its arguments.
-/
import Derived.Test.YtfidhndojkopaaaExBuildOnline
import Derived.Test.YtfidhndojkopaaaItemArg
import Derived.Test.YtfidhndojkopaaaMoveArg
