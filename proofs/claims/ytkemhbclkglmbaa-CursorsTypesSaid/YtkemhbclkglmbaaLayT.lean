/- sort.SliceStable's text at this dump: the library's contract is laid at it. Conditions: none. -/
import Derived.Test.YtkemhbclkglmbaaProg
import Derived.Shelf.GgSortMore.Stable
import Derived.Shelf.Lay
import Derived.Ground.GgtProg
namespace Go.Proofs
open Go.Shelf
shelf_lay LaysGt.n8 Ggt 8 at Try as Try.sortStable
end Go.Proofs
