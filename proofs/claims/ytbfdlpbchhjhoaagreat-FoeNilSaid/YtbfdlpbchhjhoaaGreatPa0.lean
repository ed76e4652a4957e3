import Derived.Test.YtbfdlpbchhjhoaaGreatProg
import Derived.WalkKit
import Derived.Shelf.Lay
import Derived.Shelf.SortG.Plain
import Derived.Shelf.SortG.SortNone
section
namespace Go.Proofs
open Go.Shelf
shelf_lay_g SlLaysN.n54 Slgn 54 at Tryz 92 as Tryz.sortSt
end Go.Proofs
end
