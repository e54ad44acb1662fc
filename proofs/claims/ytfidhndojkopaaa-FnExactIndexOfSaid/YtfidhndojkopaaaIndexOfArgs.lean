/-
  The walk of FnExactIndexOf and its argument.
-/
import Derived.Test.YtfidhndojkopaaaExIndexOf
import Derived.Test.YtfidhndojkopaaaItemArg
