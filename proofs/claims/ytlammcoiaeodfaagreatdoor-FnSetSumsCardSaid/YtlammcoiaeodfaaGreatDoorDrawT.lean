/- The reference's draws of texts. -/
import Derived.Test.YtlammcoiaeodfaaGreatDoorDrawW
import Derived.Lib.SlBytesRow
namespace Go.Proofs.YtlammcoiaeodfaaGreatDoor
open Go.RowKit
set_option linter.unusedVariables false
set_option maxRecDepth 100000

/-- A text that is drawn. -/
def DrawsT (b N : Nat) (P : ByteArray → Prop) (w : World) (e : Ending) (w' : World) : Prop := ∃ s : ByteArray, e = .returned (.string s) ∧ P s ∧ Cur w' b N ∧ w.grownBy w' (some b)
def DrawnT (P : ByteArray → Prop) (w : World) (e : Ending) (w' : World) : Prop := ∃ s : ByteArray, e = .returned (.string s) ∧ P s ∧ Below w.heap.size w w'
def DrawnTT (P : ByteArray → ByteArray → Prop) (w : World) (e : Ending) (w' : World) : Prop := ∃ s t : ByteArray, e = .returned (.tuple #[.string s, .string t]) ∧ P s t ∧ Below w.heap.size w w'
theorem lies_lit (w : World) (vs : List Value) (t : TypeId) : Lies (w.alloc (.cells vs.toArray t)) (w.heap.size + 1) (some ⟨w.heap.size, 0, none⟩) vs := fun hn => by
  refine ⟨_, rfl, Nat.lt_succ_self _, fun j u hu => ?_⟩
  rw [add_lit]
  simp [go_sem]
  exact hu
theorem Lies.far {w w' : World} {H : Nat} {A : Option Addr} {vs : List Value} {row : Option Nat} (h : Lies w H A vs) (hg : w.grownBy w' row) (hH : H ≤ w.heap.size) (hne : ∀ ad, A = some ad → row ≠ some ad.block) : Lies w' H A vs := fun hn => by
  obtain ⟨ad, e, hb, hc⟩ := h hn
  refine ⟨ad, e, hb, fun j u hu => ?_⟩
  rw [← hc j u hu]
  exact World.cell?_of_block (hg.block _ (by rw [block_of_add]; omega) (by rw [block_of_add]; exact fun e2 => hne ad e e2.symm))
theorem conv_one (w : World) (x : Int) : ∃ t : ByteArray, t.size ≤ 1 ∧ 1 ≤ t.size ∧ (convert 22 9 (.slice (some ⟨w.heap.size, 0, none⟩) 1 1)).run Tryz.prog (w.alloc (.cells #[.int .u8 x] 5)) = .ok (.string t) (w.alloc (.cells #[.int .u8 x] 5)) :=
  ⟨strOfNums [x], by rw [strOfNums_size]; exact Nat.le_refl _, by rw [strOfNums_size]; exact Nat.le_refl _, run_convert_bytes_arg (P := Tryz.prog) _ 22 5 Tryz.underlying22 Tryz.underlying5 w.heap.size 0 1 1 [x] rfl (fun i hi => by
    obtain rfl : i = 0 := by omega
    simp [go_sem]) 9 Tryz.underlying9⟩
end Go.Proofs.YtlammcoiaeodfaaGreatDoor
