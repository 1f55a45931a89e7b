/- slices.SortFunc's text at this dump: the library's contract is laid at it. Conditions: none. -/
import Derived.Test.YtfelfimcnidplaaProg
import Derived.Shelf.SlSortCmp.NoneTotal
import Derived.Shelf.Lay
import Derived.Shelf.SlGeneric
import Derived.Ground.SlsfProg
namespace Go.Proofs
open Go.Shelf
shelf_lay_g SlLaysF0.n6 Slsf 6 at Try 10 as Try.sortHits
end Go.Proofs
