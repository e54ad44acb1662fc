/-
  slices.SortFunc at items: the table of numbers and the facts that the library's contract asks of the program.
-/
import Derived.Shelf.SlGeneric
import Derived.Shelf.SlSortCmp.NoneTotal
import Derived.Ground.SlsfProg
import Derived.Test.YtmlphdniiiijpaaRows
set_option linter.all false
namespace Go.Proofs.Ytmlphdniiiijpaa
open Go.Shelf
end Go.Proofs.Ytmlphdniiiijpaa
