import Derived.Test.YtodiipjdnnnieaaGreatProg
import Derived.WalkKit
import Derived.Shelf.Lay
import Derived.Shelf.SortG.Plain
import Derived.Shelf.SortG.SortNone
section
namespace Go.Proofs
open Go.Shelf
shelf_lay_g SlLaysN.n53 Slgn 53 at Tryz 207 as Tryz.sortT
end Go.Proofs
end
