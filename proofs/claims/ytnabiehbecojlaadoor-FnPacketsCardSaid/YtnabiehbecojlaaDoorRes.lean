/- A packet handed back out of its box. -/
import Derived.Test.YtnabiehbecojlaaDoorPkS
namespace Go.Proofs.YtnabiehbecojlaaDoor
open Go.RowKit
set_option linter.unusedVariables false
set_option maxRecDepth 100000

theorem res_ippl {ts : Array Value} {b : Nat} {w : World} {k n t l : Int} {d : List UInt8} {ok : Bool} (h2 : ts[2]? = some (.pointer (some ⟨b, 0, none⟩))) (h3 : ts[3]? = some (.bool ok)) (K : PkAt k n t l d b w) :
    (results Tryd.f18 ts).run Tryd.prog w = .ok (.tuple #[.agg (pkC k n t l d), .bool ok]) w := by
  obtain ⟨_, c0, c1, c2, c3, c4⟩ := K
  simp [results, Tryd.results18, go_sem, h2, h3, c0, c1, c2, c3, c4]
  rfl
theorem res_sppl {ts : Array Value} {b : Nat} {w : World} {k n t l : Int} {d : List UInt8} {ok : Bool} (h2 : ts[2]? = some (.pointer (some ⟨b, 0, none⟩))) (h3 : ts[3]? = some (.bool ok)) (K : PkAt k n t l d b w) :
    (results Tryd.f17 ts).run Tryd.prog w = .ok (.tuple #[.agg (pkC k n t l d), .bool ok]) w := by
  obtain ⟨_, c0, c1, c2, c3, c4⟩ := K
  simp [results, Tryd.results17, go_sem, h2, h3, c0, c1, c2, c3, c4]
  rfl
theorem res_pars {ts : Array Value} {b : Nat} {w : World} {k n t l : Int} {d : List UInt8} {ok : Bool} (h2 : ts[2]? = some (.pointer (some ⟨b, 0, none⟩))) (h3 : ts[3]? = some (.bool ok)) (K : PkAt k n t l d b w) :
    (results Tryd.f35 ts).run Tryd.prog w = .ok (.tuple #[.agg (pkC k n t l d), .bool ok]) w := by
  obtain ⟨_, c0, c1, c2, c3, c4⟩ := K
  simp [results, Tryd.results35, go_sem, h2, h3, c0, c1, c2, c3, c4]
  rfl
theorem res_idec {ts : Array Value} {b : Nat} {w : World} {k n t l : Int} {d : List UInt8} {ok : Bool} (h2 : ts[2]? = some (.pointer (some ⟨b, 0, none⟩))) (h3 : ts[3]? = some (.bool ok)) (K : PkAt k n t l d b w) :
    (results Tryd.f13 ts).run Tryd.prog w = .ok (.tuple #[.agg (pkC k n t l d), .bool ok]) w := by
  obtain ⟨_, c0, c1, c2, c3, c4⟩ := K
  simp [results, Tryd.results13, go_sem, h2, h3, c0, c1, c2, c3, c4]
  rfl
theorem res_sdec {ts : Array Value} {b : Nat} {w : World} {k n t l : Int} {d : List UInt8} {ok : Bool} (h2 : ts[2]? = some (.pointer (some ⟨b, 0, none⟩))) (h3 : ts[3]? = some (.bool ok)) (K : PkAt k n t l d b w) :
    (results Tryd.f12 ts).run Tryd.prog w = .ok (.tuple #[.agg (pkC k n t l d), .bool ok]) w := by
  obtain ⟨_, c0, c1, c2, c3, c4⟩ := K
  simp [results, Tryd.results12, go_sem, h2, h3, c0, c1, c2, c3, c4]
  rfl
theorem res_deco {ts : Array Value} {b : Nat} {w : World} {k n t l : Int} {d : List UInt8} {ok : Bool} (h2 : ts[2]? = some (.pointer (some ⟨b, 0, none⟩))) (h3 : ts[3]? = some (.bool ok)) (K : PkAt k n t l d b w) :
    (results Tryd.f30 ts).run Tryd.prog w = .ok (.tuple #[.agg (pkC k n t l d), .bool ok]) w := by
  obtain ⟨_, c0, c1, c2, c3, c4⟩ := K
  simp [results, Tryd.results30, go_sem, h2, h3, c0, c1, c2, c3, c4]
  rfl
end Go.Proofs.YtnabiehbecojlaaDoor
