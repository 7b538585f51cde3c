/- Packets as digits: the program's list of bytes. -/
import Derived.Test.YtpmfaiocmgkmpaaGreatDoorEnc
import Derived.Deep.RegionHeld3
namespace Go.Proofs.YtpmfaiocmgkmpaaGreatDoor
open Go.RowKit
set_option linter.unusedVariables false
set_option maxRecDepth 100000

end Go.Proofs.YtpmfaiocmgkmpaaGreatDoor
