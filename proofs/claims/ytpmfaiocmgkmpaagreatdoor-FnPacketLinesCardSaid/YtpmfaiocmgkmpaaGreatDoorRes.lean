/- A packet handed back out of its box. -/
import Derived.Test.YtpmfaiocmgkmpaaGreatDoorPkS
namespace Go.Proofs.YtpmfaiocmgkmpaaGreatDoor
open Go.RowKit
set_option linter.unusedVariables false
set_option maxRecDepth 100000

theorem res_ippl {ts : Array Value} {b : Nat} {w : World} {k n t l : Int} {d : List UInt8} {ok : Bool} (h2 : ts[2]? = some (.pointer (some ⟨b, 0, none⟩))) (h3 : ts[3]? = some (.bool ok)) (K : PkAt k n t l d b w) :
    (results Tryz.f7 ts).run Tryz.prog w = .ok (.tuple #[.agg (pkC k n t l d), .bool ok]) w := by
  obtain ⟨_, c0, c1, c2, c3, c4⟩ := K
  simp [results, Tryz.results7, go_sem, h2, h3, c0, c1, c2, c3, c4]
  rfl
theorem res_sppl {ts : Array Value} {b : Nat} {w : World} {k n t l : Int} {d : List UInt8} {ok : Bool} (h2 : ts[2]? = some (.pointer (some ⟨b, 0, none⟩))) (h3 : ts[3]? = some (.bool ok)) (K : PkAt k n t l d b w) :
    (results Tryz.f10 ts).run Tryz.prog w = .ok (.tuple #[.agg (pkC k n t l d), .bool ok]) w := by
  obtain ⟨_, c0, c1, c2, c3, c4⟩ := K
  simp [results, Tryz.results10, go_sem, h2, h3, c0, c1, c2, c3, c4]
  rfl
theorem res_pars {ts : Array Value} {b : Nat} {w : World} {k n t l : Int} {d : List UInt8} {ok : Bool} (h2 : ts[2]? = some (.pointer (some ⟨b, 0, none⟩))) (h3 : ts[3]? = some (.bool ok)) (K : PkAt k n t l d b w) :
    (results Tryz.f30 ts).run Tryz.prog w = .ok (.tuple #[.agg (pkC k n t l d), .bool ok]) w := by
  obtain ⟨_, c0, c1, c2, c3, c4⟩ := K
  simp [results, Tryz.results30, go_sem, h2, h3, c0, c1, c2, c3, c4]
  rfl
end Go.Proofs.YtpmfaiocmgkmpaaGreatDoor
