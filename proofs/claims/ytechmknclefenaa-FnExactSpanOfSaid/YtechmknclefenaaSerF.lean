/- The exported functions over serials and words: what each returns, the program's and the reference's alike. -/
import Derived.Test.YtechmknclefenaaSer
import Derived.Test.YtechmknclefenaaBits
namespace Go.Proofs.Ytechmknclefenaa
open Go.RowKit
set_option linter.unusedVariables false

def afterSerialOk (x n : Int) : Bool := inR x (0) 65535 && inR n (-65536) 65536
def afterSerialR (x n : Int) : Int := if afterSerialOk x n then aftV x n else 0
def serialGapOk (a b : Int) : Bool := inR a (0) 65535 && inR b (0) 65535
def serialGapR (a b : Int) : Int := if serialGapOk a b then gapV a b else 0
def isBeforeOk (a b : Int) : Bool := inR a (0) 65535 && inR b (0) 65535
def isBeforeR (a b : Int) : Bool := if isBeforeOk a b then befB a b else false
def inSpanOk (x f c : Int) : Bool := inR x (0) 65535 && inR f (0) 65535 && inR c (0) 65536
def inSpanR (x f c : Int) : Bool := if inSpanOk x f c then decide (gapV f x < c) else false
def addWordsOk (a b : Int) : Bool := inR a (0) 65535 && inR b (0) 65535
def addWordsR (a b : Int) : Int := if addWordsOk a b then addV a b else 0

end Go.Proofs.Ytechmknclefenaa
