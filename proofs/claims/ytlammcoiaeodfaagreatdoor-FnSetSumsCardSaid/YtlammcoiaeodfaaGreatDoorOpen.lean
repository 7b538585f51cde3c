/- The laws' arguments opened: what a slice of whole numbers, of texts, of ranges, a tree, a packet that came in is as a value, and what its cells hold. -/
import Derived.Test.YtlammcoiaeodfaaGreatDoorRows
import Derived.Test.YtlammcoiaeodfaaGreatDoorMem
import Derived.ProofKit
import Derived.OpenShut
import Derived.SliceStrings
import Derived.Deep.Slices
import Derived.Deep.Fields
import Derived.Lib.SmallJoins
namespace Go.Proofs.YtlammcoiaeodfaaGreatDoor
open Go.ChangeShapes Go.WideShapes Go.ChangeAt Go.RowKit Go.Deep Go.Joins
set_option linter.unusedVariables false
set_option maxRecDepth 100000

section
variable {H : Type} {enc : TypeId × Value → H} {W : World} {b base : Nat} {spare : Nat → Bool} {held : Bool} {v : Value} {d : DataW H} {p : List MemPlace}

theorem ints_of_trod {fuel : Nat} {c : Value} {x : DataW H × List MemPlace} (h : DataW.trod enc Tryz.prog W base (fun _ => true) held fuel 56 [c] = some x) :
    ∃ (A : Option Addr) (cap : Nat) (zs : List Int), c = .slice A zs.length cap ∧ Ints W W.heap.size A zs ∧ zs.length ≤ 9223372036854775807 ∧ ∀ n ∈ zs, (Lit.int .i64 n).wf = true := by
  rcases open_ints Tryz.underlying56 Tryz.underlying3 (by kernel_rfl) h with ⟨hcs, _⟩ | ⟨a, len, cap, zs, hcs, _, hl, hm, hz, _, hcell, hwz⟩
  · simp at hcs
    exact ⟨none, 0, [], hcs, Ints.nil _ _ _, by simp, by simp⟩
  · simp at hcs
    simp at hz
    refine ⟨some a, cap, zs.take len, by rw [hcs]; simp; omega, fun hn => ?_, by unfold maxLen at hm; simp; omega, fun n hn => hwz n (List.mem_of_mem_take hn)⟩
    simp at hn
    have h0 := hcell 0 (by omega)
    refine ⟨a, rfl, by have := World.block_lt_of_cell? _ _ h0; rwa [block_of_add] at this, fun j u hu => ?_⟩
    rw [List.getElem?_map, List.getElem?_take] at hu
    split at hu
    · rw [List.getElem?_eq_getElem (by omega)] at hu
      simp at hu
      subst hu
      have := hcell j (by omega)
      rw [this]
      simp [show j < zs.length from by omega]
    · simp at hu
theorem open_ints' (hv : Value.okWide Tryz.prog W .any b 56 v) (h : DataW.Trod enc Tryz.prog W base (fun _ => true) held 56 v d p) :
    ∃ (A : Option Addr) (cap : Nat) (zs : List Int), v = .slice A zs.length cap ∧ Ints W W.heap.size A zs ∧ ∀ n ∈ zs, (Lit.int .i64 n).wf = true := by
  obtain ⟨A, len, cap, rfl⟩ := okWide_slice Tryz.underlying56 hv
  obtain ⟨fuel, hf⟩ := h
  obtain ⟨A, cap, zs, e, h, _, hw⟩ := ints_of_trod hf
  exact ⟨A, cap, zs, e, h, hw⟩
end
end Go.Proofs.YtlammcoiaeodfaaGreatDoor
