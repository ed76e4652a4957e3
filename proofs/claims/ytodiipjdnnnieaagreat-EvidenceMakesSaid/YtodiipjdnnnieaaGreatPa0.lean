import Derived.Test.YtodiipjdnnnieaaGreatProg
import Derived.WalkKit
import Derived.Shelf.Lay
import Derived.Shelf.SlMaps.Clone
section
namespace Go.Proofs
open Go.Shelf
end Go.Proofs
end
