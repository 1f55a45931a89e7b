/- slices.SortFunc's text at this dump: the library's contract is laid at it. Conditions: none. -/
import Derived.Test.YtoiebdgnfjgcpaaProg
import Derived.Shelf.SlSortCmp.NoneTotal
import Derived.Shelf.Lay
import Derived.Shelf.SlGeneric
import Derived.Ground.SlsfProg
namespace Go.Proofs
open Go.Shelf
shelf_lay_g SlLaysF.n6 Slsf 6 at Try 36 as Try.sortInts
end Go.Proofs
