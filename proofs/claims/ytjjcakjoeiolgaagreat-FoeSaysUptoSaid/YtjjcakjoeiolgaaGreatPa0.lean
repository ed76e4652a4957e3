import Derived.Test.YtjjcakjoeiolgaaGreatProg
import Derived.WalkKit
import Derived.Shelf.SortG.Plain
import Derived.Shelf.SortG.SortNone
set_option linter.defProp false
section
namespace Go.Proofs
open Go.Shelf
end Go.Proofs
end
