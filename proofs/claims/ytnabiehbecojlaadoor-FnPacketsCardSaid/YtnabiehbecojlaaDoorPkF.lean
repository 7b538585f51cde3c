/- Packets: the exported tests and the repair. -/
import Derived.Test.YtnabiehbecojlaaDoorPk
namespace Go.Proofs.YtnabiehbecojlaaDoor
open Go.RowKit
set_option linter.unusedVariables false
set_option maxRecDepth 100000

/-- A packet lies in block b. -/
def PkAt (k n t l : Int) (d : List UInt8) (b : Nat) (w : World) : Prop :=
  b < w.heap.size ∧ w.cell? ⟨b, 0, none⟩ = some (.int .i64 k) ∧ w.cell? ⟨b, 1, none⟩ = some (.int .i64 n) ∧ w.cell? ⟨b, 2, none⟩ = some (.int .i64 t) ∧ w.cell? ⟨b, 3, none⟩ = some (.int .i64 l) ∧ w.cell? ⟨b, 4, none⟩ = some (.string (str d))
theorem PkAt.keep {k n t l : Int} {d : List UInt8} {b : Nat} {w w1 : World} (h : PkAt k n t l d b w) (b1 : Below w.heap.size w w1) : PkAt k n t l d b w1 := by
  obtain ⟨hb, h0, h1, h2, h3, h4⟩ := h
  exact ⟨Nat.lt_of_lt_of_le hb b1.size, (b1.cell (p := ⟨b, 0, none⟩) hb).trans h0, (b1.cell (p := ⟨b, 1, none⟩) hb).trans h1, (b1.cell (p := ⟨b, 2, none⟩) hb).trans h2, (b1.cell (p := ⟨b, 3, none⟩) hb).trans h3, (b1.cell (p := ⟨b, 4, none⟩) hb).trans h4⟩
theorem pkAt_new (k n t l : Int) (d : List UInt8) (w : World) (T : TypeId) : PkAt k n t l d w.heap.size (w.alloc (.cells #[.int .i64 k, .int .i64 n, .int .i64 t, .int .i64 l, .string (str d)] T)) := by
  refine ⟨by simp, ?_, ?_, ?_, ?_, ?_⟩ <;> simp [go_sem]
theorem free_new (w : World) (cs : Array Value) (T : TypeId) (j : Nat) : (w.alloc (.cells cs T)).frozen? ⟨w.heap.size, j, none⟩ = false := by simp [go_sem]
theorem set5 {B : Nat} {a w : World} {b : Nat} (h : Below B a w) (hb : B ≤ b) (x0 x1 x2 x3 x4 : Value) : Below B a (((((w.setCell ⟨b, 0, none⟩ x0).setCell ⟨b, 1, none⟩ x1).setCell ⟨b, 2, none⟩ x2).setCell ⟨b, 3, none⟩ x3).setCell ⟨b, 4, none⟩ x4) :=
  ((((h.setCell (p := ⟨b, 0, none⟩) hb x0).setCell (p := ⟨b, 1, none⟩) hb x1).setCell (p := ⟨b, 2, none⟩) hb x2).setCell (p := ⟨b, 3, none⟩) hb x3).setCell (p := ⟨b, 4, none⟩) hb x4
/-- Block b may be written. -/
def Free (b : Nat) (w : World) : Prop := ∀ j, w.frozen? ⟨b, j, none⟩ = false
theorem Free.keep {b : Nat} {w w1 : World} (h : Free b w) (hb : b < w.heap.size) (b1 : Below w.heap.size w w1) : Free b w1 := fun j => (b1.frozen (p := ⟨b, j, none⟩) hb).trans (h j)
end Go.Proofs.YtnabiehbecojlaaDoor
