/- What the laws do with lists of whole numbers: copied, compared, written, read again. -/
import Derived.Test.YtnbgjkblhbpjlaaSer
import Derived.Test.YtnbgjkblhbpjlaaMem
import Derived.Deep.QuietTactic
import Derived.BigQuiet
import Derived.WalkLawsBesides
namespace Go.Proofs.Ytnbgjkblhbpjlaa
open Go.RowKit
set_option linter.unusedVariables false
set_option maxRecDepth 100000

theorem int_info : (Try.prog.info? 3).map (fun i => (i.zero, i.size, i.bytes)) = some (some (.int .i64 0), 1, 8) := by kernel_rfl

end Go.Proofs.Ytnbgjkblhbpjlaa
