/- Numbers written: the program's and the reference's FormatInt. -/
import Derived.Test.YtlammcoiaeodfaaGreatDoorLib
namespace Go.Proofs.YtlammcoiaeodfaaGreatDoor
open Go.RowKit
open Go.Lib (itoa decDigits)
set_option linter.unusedVariables false
set_option maxRecDepth 100000

def fmtT (n : Int) : List UInt8 := if numOk n then itoa n else []
theorem numOk_in (n : Int) : inR n (-999999) 999999 = numOk n := by
  unfold inR numOk
  rw [Bool.eq_iff_iff]
  simp
theorem ret_sb {a b : ByteArray} {c : Bool} (h : a = b) : Ending.returned (.tuple #[.string a, .bool c]) = .returned (.tuple #[.string b, .bool c]) := by rw [h]
end Go.Proofs.YtlammcoiaeodfaaGreatDoor
