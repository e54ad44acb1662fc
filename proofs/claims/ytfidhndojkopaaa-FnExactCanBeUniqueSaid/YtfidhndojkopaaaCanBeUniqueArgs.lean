/-
  The walk of FnExactCanBeUnique and its arguments.
-/
import Derived.Test.YtfidhndojkopaaaExCanBeUnique
import Derived.Test.YtfidhndojkopaaaItemArg
import Derived.Test.YtfidhndojkopaaaMoveArg
