/-
  The walk of FnExactDrainSide and its arguments.
-/
import Derived.Test.YtfidhndojkopaaaExDrainSide
import Derived.Test.YtfidhndojkopaaaItemArg
import Derived.Test.YtfidhndojkopaaaMoveArg
