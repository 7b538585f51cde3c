/- The laws' arguments opened: what a slice of whole numbers, of texts, of ranges, a tree, a packet that came in is as a value, and what its cells hold. -/
import Derived.Test.YtnbgjkblhbpjlaaRows
import Derived.Test.YtnbgjkblhbpjlaaMem
import Derived.ProofKit
import Derived.OpenShut
import Derived.SliceStrings
import Derived.Deep.Slices
import Derived.Deep.Fields
import Derived.Lib.SmallJoins
namespace Go.Proofs.Ytnbgjkblhbpjlaa
open Go.ChangeShapes Go.WideShapes Go.ChangeAt Go.RowKit Go.Deep Go.Joins
set_option linter.unusedVariables false
set_option maxRecDepth 100000

section
variable {H : Type} {enc : TypeId × Value → H} {W : World} {b base : Nat} {spare : Nat → Bool} {held : Bool} {v : Value} {d : DataW H} {p : List MemPlace}

end
end Go.Proofs.Ytnbgjkblhbpjlaa
