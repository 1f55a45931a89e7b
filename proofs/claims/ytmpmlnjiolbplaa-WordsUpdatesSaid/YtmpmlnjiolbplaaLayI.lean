/- slices.Sort's text at this dump: the library's contract is laid at it. Conditions: none. -/
import Derived.Test.YtmpmlnjiolbplaaProg
import Derived.Shelf.SortM.Plain
import Derived.Shelf.SortM.SortNone
import Derived.Shelf.Lay
import Derived.Shelf.SlGeneric
import Derived.Ground.SlgmProg
namespace Go.Proofs
open Go.Shelf
shelf_lay_g SlLaysM.n6 Slgm 6 at Try 39 as Try.sortS
shelf_lay_g SlLaysM.n5 Slgm 5 at Try 23 as Try.sortI
end Go.Proofs
