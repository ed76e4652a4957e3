import Derived.Test.YtjjcakjoeiolgaaGreatProg
import Derived.WalkKit
import Derived.Shelf.Lay
import Derived.Shelf.SlMaps.Clone
set_option linter.defProp false
section
namespace Go.Proofs
open Go.Shelf
end Go.Proofs
end
