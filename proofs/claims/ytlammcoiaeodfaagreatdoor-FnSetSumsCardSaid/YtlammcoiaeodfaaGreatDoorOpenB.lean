/- A law's bytes opened; the size test ahead of the drawing laws. -/
import Derived.Test.YtlammcoiaeodfaaGreatDoorCur
import Derived.Test.YtlammcoiaeodfaaGreatDoorOpen
namespace Go.Proofs.YtlammcoiaeodfaaGreatDoor
open Go.ChangeShapes Go.WideShapes Go.ChangeAt Go.RowKit Go.Deep Go.Joins
set_option linter.unusedVariables false
set_option maxRecDepth 100000

section
variable {H : Type} {enc : TypeId × Value → H} {W : World} {b base : Nat} {spare : Nat → Bool} {held : Bool} {v : Value} {d : DataW H} {p : List MemPlace}

theorem u8_wf {n : Int} (h : (Lit.int .u8 n).wf = true) : 0 ≤ n ∧ n ≤ 255 := by
  simp [Lit.wf, IntKind.min, IntKind.max, IntKind.signed, IntKind.bits] at h
  omega
theorem open_bytes' (hv : Value.okWide Tryz.prog W .any b 22 v) (h : DataW.Trod enc Tryz.prog W base (fun _ => true) held 22 v d p) :
    ∃ (A : Option Addr) (cap n : Nat), v = .slice A n cap ∧ BytesAt W W.heap.size A n := by
  obtain ⟨A, len, cap, rfl⟩ := okWide_slice Tryz.underlying22 hv
  obtain ⟨fuel, hf⟩ := h
  rcases open_ints Tryz.underlying22 Tryz.underlying5 (by kernel_rfl) hf with ⟨hcs, _⟩ | ⟨a, l2, c2, zs, hcs, _, hl, hm, hz, _, hcell, hwz⟩
  · simp [Value.cells] at hcs
    obtain ⟨rfl, rfl, rfl⟩ := hcs
    exact ⟨none, 0, 0, rfl, fun i hi => absurd hi (by omega)⟩
  · simp [Value.cells] at hcs
    obtain ⟨rfl, rfl, rfl⟩ := hcs
    simp at hz
    refine ⟨some a, cap, len, rfl, fun i hi => ?_⟩
    have hc := hcell i (by omega)
    have hi' : i < zs.length := by omega
    refine ⟨a, zs.getD i 0, rfl, by have := World.block_lt_of_cell? _ _ hc; rwa [block_of_add] at this, hc, ?_⟩
    exact u8_wf (hwz _ (by rw [show zs.getD i 0 = zs[i] from by simp [hi']]; exact List.getElem_mem _))
end
theorem c_rBig (A : Option Addr) (n cap : Nat) (w : World) : Calls Tryz.prog 4 #[.slice A n cap] w fun e w' => e = .returned (.bool (decide ((65536 : Int) < (n : Int)))) ∧ w = w' := by
  go_enter Tryz.func4, Tryz.ntmps4
  go_wp2
  go_ret
  exact ⟨rfl, rfl⟩
end Go.Proofs.YtlammcoiaeodfaaGreatDoor
