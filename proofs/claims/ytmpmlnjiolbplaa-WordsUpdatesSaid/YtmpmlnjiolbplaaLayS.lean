/- sort.Slice's text at this dump: the library's contract is laid at it. Conditions: none. -/
import Derived.Test.YtmpmlnjiolbplaaProg
import Derived.Shelf.SlSortFuncK.WholeK
import Derived.Shelf.GgSortFunc.Tiny
import Derived.Shelf.Lay
import Derived.Ground.GgsProg
namespace Go.Proofs
open Go.Shelf
shelf_lay LaysGg.n6 Ggs 6 at Try as Try.sortSlice
end Go.Proofs
