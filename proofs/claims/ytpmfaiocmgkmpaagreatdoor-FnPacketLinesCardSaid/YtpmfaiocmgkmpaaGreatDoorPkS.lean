/- A packet's box written in one field; one byte as a text; texts compared. -/
import Derived.Test.YtpmfaiocmgkmpaaGreatDoorEnc
namespace Go.Proofs.YtpmfaiocmgkmpaaGreatDoor
open Go.RowKit
set_option linter.unusedVariables false
set_option maxRecDepth 100000

theorem PkAt.set4 {k n t l : Int} {d : List UInt8} {b : Nat} {w : World} (h : PkAt k n t l d b w) (d' : List UInt8) : PkAt k n t l d' b (w.setCell ⟨b, 4, none⟩ (.string (str d'))) := by
  obtain ⟨hb, h0, h1, h2, h3, h4⟩ := h
  refine ⟨by rw [World.size_setCell]; exact hb, ?_, ?_, ?_, ?_, World.cell?_setCell_same w ⟨b, 4, none⟩ _ h4⟩
  · exact (World.cell?_setCell_other w ⟨b, 4, none⟩ ⟨b, 0, none⟩ _ (by simp)).trans h0
  · exact (World.cell?_setCell_other w ⟨b, 4, none⟩ ⟨b, 1, none⟩ _ (by simp)).trans h1
  · exact (World.cell?_setCell_other w ⟨b, 4, none⟩ ⟨b, 2, none⟩ _ (by simp)).trans h2
  · exact (World.cell?_setCell_other w ⟨b, 4, none⟩ ⟨b, 3, none⟩ _ (by simp)).trans h3
theorem PkAt.set0 {k n t l : Int} {d : List UInt8} {b : Nat} {w : World} (h : PkAt k n t l d b w) (x : Int) : PkAt x n t l d b (w.setCell ⟨b, 0, none⟩ (.int .i64 x)) := by
  obtain ⟨hb, h0, h1, h2, h3, h4⟩ := h
  exact ⟨by rw [World.size_setCell]; exact hb, World.cell?_setCell_same w ⟨b, 0, none⟩ _ h0, (World.cell?_setCell_other w ⟨b, 0, none⟩ ⟨b, 1, none⟩ _ (by simp)).trans h1, (World.cell?_setCell_other w ⟨b, 0, none⟩ ⟨b, 2, none⟩ _ (by simp)).trans h2, (World.cell?_setCell_other w ⟨b, 0, none⟩ ⟨b, 3, none⟩ _ (by simp)).trans h3, (World.cell?_setCell_other w ⟨b, 0, none⟩ ⟨b, 4, none⟩ _ (by simp)).trans h4⟩
theorem PkAt.set1 {k n t l : Int} {d : List UInt8} {b : Nat} {w : World} (h : PkAt k n t l d b w) (x : Int) : PkAt k x t l d b (w.setCell ⟨b, 1, none⟩ (.int .i64 x)) := by
  obtain ⟨hb, h0, h1, h2, h3, h4⟩ := h
  exact ⟨by rw [World.size_setCell]; exact hb, (World.cell?_setCell_other w ⟨b, 1, none⟩ ⟨b, 0, none⟩ _ (by simp)).trans h0, World.cell?_setCell_same w ⟨b, 1, none⟩ _ h1, (World.cell?_setCell_other w ⟨b, 1, none⟩ ⟨b, 2, none⟩ _ (by simp)).trans h2, (World.cell?_setCell_other w ⟨b, 1, none⟩ ⟨b, 3, none⟩ _ (by simp)).trans h3, (World.cell?_setCell_other w ⟨b, 1, none⟩ ⟨b, 4, none⟩ _ (by simp)).trans h4⟩
theorem PkAt.set2 {k n t l : Int} {d : List UInt8} {b : Nat} {w : World} (h : PkAt k n t l d b w) (x : Int) : PkAt k n x l d b (w.setCell ⟨b, 2, none⟩ (.int .i64 x)) := by
  obtain ⟨hb, h0, h1, h2, h3, h4⟩ := h
  exact ⟨by rw [World.size_setCell]; exact hb, (World.cell?_setCell_other w ⟨b, 2, none⟩ ⟨b, 0, none⟩ _ (by simp)).trans h0, (World.cell?_setCell_other w ⟨b, 2, none⟩ ⟨b, 1, none⟩ _ (by simp)).trans h1, World.cell?_setCell_same w ⟨b, 2, none⟩ _ h2, (World.cell?_setCell_other w ⟨b, 2, none⟩ ⟨b, 3, none⟩ _ (by simp)).trans h3, (World.cell?_setCell_other w ⟨b, 2, none⟩ ⟨b, 4, none⟩ _ (by simp)).trans h4⟩
theorem PkAt.set3 {k n t l : Int} {d : List UInt8} {b : Nat} {w : World} (h : PkAt k n t l d b w) (x : Int) : PkAt k n t x d b (w.setCell ⟨b, 3, none⟩ (.int .i64 x)) := by
  obtain ⟨hb, h0, h1, h2, h3, h4⟩ := h
  exact ⟨by rw [World.size_setCell]; exact hb, (World.cell?_setCell_other w ⟨b, 3, none⟩ ⟨b, 0, none⟩ _ (by simp)).trans h0, (World.cell?_setCell_other w ⟨b, 3, none⟩ ⟨b, 1, none⟩ _ (by simp)).trans h1, (World.cell?_setCell_other w ⟨b, 3, none⟩ ⟨b, 2, none⟩ _ (by simp)).trans h2, World.cell?_setCell_same w ⟨b, 3, none⟩ _ h3, (World.cell?_setCell_other w ⟨b, 3, none⟩ ⟨b, 4, none⟩ _ (by simp)).trans h4⟩
theorem PkAt.set5 {k' n' t' l' : Int} {d' : List UInt8} {b : Nat} {w : World} (h : PkAt k' n' t' l' d' b w) (k n t l : Int) (d : List UInt8) : PkAt k n t l d b (((((w.setCell ⟨b, 0, none⟩ (.int .i64 k)).setCell ⟨b, 1, none⟩ (.int .i64 n)).setCell ⟨b, 2, none⟩ (.int .i64 t)).setCell ⟨b, 3, none⟩ (.int .i64 l)).setCell ⟨b, 4, none⟩ (.string (str d))) :=
  ((((h.set0 k).set1 n).set2 t).set3 l).set4 d
theorem Free.set {b : Nat} {w : World} (h : Free b w) (a : Addr) (v : Value) : Free b (w.setCell a v) := fun j => by rw [World.frozen?_setCell]; exact h j
theorem u8_nat (b : UInt8) : IntKind.u8.wrap (b.toNat : Int) = (b.toNat : Int) := by
  have := b.toNat_lt
  simp only [IntKind.wrap, IntKind.bits, IntKind.signed]
  simp
  omega
theorem u8_of {x : Int} (h0 : 0 ≤ x) (h1 : x ≤ 255) : x = ((UInt8.ofNat x.toNat).toNat : Int) := by simp; omega
theorem str_tl (l : List UInt8) : (str l).toList = l := Lib.toList_data _
theorem one_text (b : UInt8) (w : World) : (convert 22 9 (.slice (some ⟨w.heap.size, 0, none⟩) 1 1)).run Tryz.prog (w.alloc (.cells #[.int .u8 (b.toNat : Int)] 5)) = .ok (.string (str [b])) (w.alloc (.cells #[.int .u8 (b.toNat : Int)] 5)) := by
  refine run_convert_bytes_back (P := Tryz.prog) _ _ _ 5 ⟨w.heap.size, 0, none⟩ 1 [b] Tryz.underlying22 Tryz.underlying5 Tryz.underlying9 fun j hj => ?_
  obtain rfl : j = 0 := by simp at hj; omega
  simp [go_sem]
end Go.Proofs.YtpmfaiocmgkmpaaGreatDoor
