/- A packet that came in, opened: four whole numbers and a text. -/
import Derived.Test.YtnabiehbecojlaaDoorPkF
import Derived.Test.YtnabiehbecojlaaDoorOpen
namespace Go.Proofs.YtnabiehbecojlaaDoor
open Go.ChangeShapes Go.WideShapes Go.ChangeAt Go.RowKit Go.Deep Go.Joins
set_option linter.unusedVariables false
set_option maxRecDepth 100000

section
variable {H : Type} {enc : TypeId × Value → H} {W : World} {b base : Nat} {spare : Nat → Bool} {held : Bool} {v : Value} {d : DataW H} {p : List MemPlace}

theorem i64_wf {n : Int} (h : (Lit.int .i64 n).wf = true) : -9223372036854775808 ≤ n ∧ n ≤ 9223372036854775807 := by
  simp [Lit.wf, IntKind.min, IntKind.max, IntKind.signed, IntKind.bits] at h
  omega
theorem open_packet (hv : Value.okWide Tryd.prog W .any b 23 v) (h : DataW.Trod enc Tryd.prog W base (fun _ => true) held 23 v d p) :
    ∃ (k n t l : Int) (x : List UInt8), v = .agg (pkC k n t l x) ∧ x.length ≤ 9223372036854775807 := by
  obtain ⟨cs, rfl, hsz⟩ := okWide_struct Tryd.underlying23 hv
  obtain ⟨l⟩ := cs
  have hC : Tryd.prog.cellsOf 23 = 5 := by kernel_rfl
  match l, hsz.trans hC with
  | [c0, c1, c2, c3, c4], _ =>
    obtain ⟨fuel, hf⟩ := h
    obtain ⟨xs, n, _, hx, _, hlen, hg⟩ := DataW.trod_struct Tryd.underlying23 hf
    have k0 : Tryd.prog.cellsOf 3 = 1 := by kernel_rfl
    have k4 : Tryd.prog.cellsOf 9 = 1 := by kernel_rfl
    match xs, hlen with
    | [y0, y1, y2, y3, y4], _ =>
      have h0 : DataW.trod enc Tryd.prog W base (fun _ => true) held n 3 [c0] = some y0 := by simpa [Value.cells, k0] using hg 0 _ rfl
      have h1 : DataW.trod enc Tryd.prog W base (fun _ => true) held n 3 [c1] = some y1 := by simpa [Value.cells, k0] using hg 1 _ rfl
      have h2 : DataW.trod enc Tryd.prog W base (fun _ => true) held n 3 [c2] = some y2 := by simpa [Value.cells, k0] using hg 2 _ rfl
      have h3 : DataW.trod enc Tryd.prog W base (fun _ => true) held n 3 [c3] = some y3 := by simpa [Value.cells, k0] using hg 3 _ rfl
      have h4 : DataW.trod enc Tryd.prog W base (fun _ => true) held n 9 [c4] = some y4 := by simpa [Value.cells, k4] using hg 4 _ rfl
      obtain ⟨z0, e0, _, w0⟩ := DataW.trod_int Tryd.underlying3 h0
      obtain ⟨z1, e1, _, w1⟩ := DataW.trod_int Tryd.underlying3 h1
      obtain ⟨z2, e2, _, w2⟩ := DataW.trod_int Tryd.underlying3 h2
      obtain ⟨z3, e3, _, w3⟩ := DataW.trod_int Tryd.underlying3 h3
      obtain ⟨s, e4, _, w4⟩ := DataW.trod_string Tryd.underlying9 h4
      simp at e0 e1 e2 e3 e4
      subst e0 e1 e2 e3 e4
      refine ⟨z0, z1, z2, z3, s.data.toList, ?_, ?_⟩
      · unfold pkC
        rw [str_list]
      · have : s.data.toList.length = s.size := Array.length_toList
        unfold maxLen at w4
        omega
end
end Go.Proofs.YtnabiehbecojlaaDoor
