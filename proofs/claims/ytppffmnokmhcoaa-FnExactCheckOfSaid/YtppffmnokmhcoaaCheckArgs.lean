/-
  The walk of FnExactCheckOf and its arguments.
-/
import Derived.Test.YtppffmnokmhcoaaChk13
import Derived.Test.YtppffmnokmhcoaaCellArg
import Derived.Test.YtppffmnokmhcoaaNoteArg
