/- The laws' arguments opened: what a slice of whole numbers, of texts, of ranges, a tree, a packet that came in is as a value, and what its cells hold. -/
import Derived.Test.YtomckpobnblogaaRows
import Derived.Test.YtomckpobnblogaaMem
import Derived.ProofKit
import Derived.OpenShut
import Derived.SliceStrings
import Derived.Deep.Slices
import Derived.Deep.Fields
import Derived.Lib.SmallJoins
namespace Go.Proofs.Ytomckpobnblogaa
open Go.ChangeShapes Go.WideShapes Go.ChangeAt Go.RowKit Go.Deep Go.Joins
set_option linter.unusedVariables false
set_option maxRecDepth 100000

section
variable {H : Type} {enc : TypeId × Value → H} {W : World} {b base : Nat} {spare : Nat → Bool} {held : Bool} {v : Value} {d : DataW H} {p : List MemPlace}

theorem ints_of_trod {fuel : Nat} {c : Value} {x : DataW H × List MemPlace} (h : DataW.trod enc Try.prog W base (fun _ => true) held fuel 65 [c] = some x) :
    ∃ (A : Option Addr) (cap : Nat) (zs : List Int), c = .slice A zs.length cap ∧ Ints W W.heap.size A zs ∧ zs.length ≤ 9223372036854775807 ∧ ∀ n ∈ zs, (Lit.int .i64 n).wf = true := by
  rcases open_ints Try.underlying65 Try.underlying3 (by kernel_rfl) h with ⟨hcs, _⟩ | ⟨a, len, cap, zs, hcs, _, hl, hm, hz, _, hcell, hwz⟩
  · simp at hcs
    exact ⟨none, 0, [], hcs, Ints.nil _ _ _, by simp, by simp⟩
  · simp at hcs
    simp at hz
    refine ⟨some a, cap, zs.take len, by rw [hcs]; simp; omega, fun hn => ?_, by unfold maxLen at hm; simp; omega, fun n hn => hwz n (List.mem_of_mem_take hn)⟩
    simp at hn
    have h0 := hcell 0 (by omega)
    refine ⟨a, rfl, by have := World.block_lt_of_cell? _ _ h0; rwa [block_of_add] at this, fun j u hu => ?_⟩
    rw [List.getElem?_map, List.getElem?_take] at hu
    split at hu
    · rw [List.getElem?_eq_getElem (by omega)] at hu
      simp at hu
      subst hu
      have := hcell j (by omega)
      rw [this]
      simp [show j < zs.length from by omega]
    · simp at hu
theorem open_ints' (hv : Value.okWide Try.prog W .any b 65 v) (h : DataW.Trod enc Try.prog W base (fun _ => true) held 65 v d p) :
    ∃ (A : Option Addr) (cap : Nat) (zs : List Int), v = .slice A zs.length cap ∧ Ints W W.heap.size A zs ∧ ∀ n ∈ zs, (Lit.int .i64 n).wf = true := by
  obtain ⟨A, len, cap, rfl⟩ := okWide_slice Try.underlying65 hv
  obtain ⟨fuel, hf⟩ := h
  obtain ⟨A, cap, zs, e, h, _, hw⟩ := ints_of_trod hf
  exact ⟨A, cap, zs, e, h, hw⟩
theorem open_ranges (hv : Value.okWide Try.prog W .any b 22 v) (h : DataW.Trod enc Try.prog W base (fun _ => true) held 22 v d p) :
    ∃ (A : Option Addr) (cap : Nat) (rs : List (Int × Int)), v = .slice A rs.length cap ∧ Rngs W W.heap.size A rs ∧ rs.length ≤ 9223372036854775807 ∧ ∀ r ∈ rs, (Lit.int .i64 r.1).wf = true ∧ (Lit.int .i64 r.2).wf = true := by
  obtain ⟨A, len, cap, rfl⟩ := okWide_slice Try.underlying22 hv
  obtain ⟨fuel, hf⟩ := h
  have hC : Try.prog.cellsOf 50 = 2 := by kernel_rfl
  have k0 : Try.prog.cellsOf 3 = 1 := by kernel_rfl
  rcases open_slice Try.underlying22 hf with ⟨hcs, _⟩ | ⟨a, l, c, m, n, D, Pl, hcs, _, hl, hm, hmm, _, hi⟩
  · simp [Value.cells] at hcs
    obtain ⟨rfl, rfl, rfl⟩ := hcs
    exact ⟨none, 0, [], rfl, Rngs.nil _ _ _, by simp, by simp⟩
  · simp [Value.cells] at hcs
    obtain ⟨rfl, rfl, rfl⟩ := hcs
    simp at hmm
    subst hmm
    rw [hC] at hi
    have each : ∀ i : Nat, ∃ r : Int × Int, i < m → W.cell? (a.add (i * 2)) = some (.int .i64 r.1) ∧ W.cell? (a.add (i * 2 + 1)) = some (.int .i64 r.2) ∧ (Lit.int .i64 r.1).wf = true ∧ (Lit.int .i64 r.2).wf = true := by
      intro i
      by_cases him : i < m
      · obtain ⟨cs, hc, ht⟩ := hi i him
        obtain ⟨_, hcl, hat⟩ := World.cells?_some hc
        obtain ⟨l0, hl0⟩ : ∃ l0, l0 = cs := ⟨_, rfl⟩
        match cs, hcl with
        | [c0, c1], _ =>
          obtain ⟨xs, n', _, hx, _, hlen, hg⟩ := DataW.trod_struct Try.underlying50 ht
          match xs, hlen with
          | [y0, y1], _ =>
            have h0 := hg 0 _ rfl
            have h1 := hg 1 _ rfl
            have h0' : DataW.trod enc Try.prog W base (fun _ => true) held n' 3 [c0] = some y0 := by simpa [k0] using h0
            have h1' : DataW.trod enc Try.prog W base (fun _ => true) held n' 3 [c1] = some y1 := by simpa [k0] using h1
            obtain ⟨z0, e0, _, w0⟩ := DataW.trod_int Try.underlying3 h0'
            obtain ⟨z1, e1, _, w1⟩ := DataW.trod_int Try.underlying3 h1'
            simp at e0 e1
            subst e0 e1
            have a0 := hat 0 (by omega)
            have a1 := hat 1 (by omega)
            rw [Go.Deep.add_add] at a0 a1
            exact ⟨(z0, z1), fun _ => ⟨a0, a1, w0, w1⟩⟩
      · exact ⟨(0, 0), fun h => absurd h him⟩
    obtain ⟨R, hR⟩ := Classical.skolem.1 each
    refine ⟨some a, m, (List.range len).map R, by simp, fun hn => ?_, by unfold maxLen at hm; simp; omega, ?_⟩
    · rw [rcells_length] at hn
      simp at hn
      have h0 := (hR 0 (by omega)).1
      refine ⟨a, rfl, by have := World.block_lt_of_cell? _ _ h0; rwa [block_of_add] at this, fun j u hu => ?_⟩
      have hj : j < len * 2 := by
        have := (List.getElem?_eq_some_iff.1 hu).1
        rw [rcells_length] at this
        simpa using this
      have hg := rcells_get ((List.range len).map R) (j / 2) (by simp; omega)
      have hr := hR (j / 2) (by omega)
      have hd : ((List.range len).map R).getD (j / 2) (0, 0) = R (j / 2) := by simp [show j / 2 < len from by omega]
      rw [hd] at hg
      rcases Nat.mod_two_eq_zero_or_one j with e | e
      · rw [show j / 2 * 2 = j from by omega] at hg hr
        rw [hr.1, ← hg.1, hu]
      · rw [show j / 2 * 2 + 1 = j from by omega] at hg hr
        rw [hr.2.1, ← hg.2, hu]
    · intro r hr
      obtain ⟨i, hi', rfl⟩ := List.mem_map.1 hr
      have := hR i (by have := List.mem_range.1 hi'; omega)
      exact ⟨this.2.2.1, this.2.2.2⟩
end
end Go.Proofs.Ytomckpobnblogaa
