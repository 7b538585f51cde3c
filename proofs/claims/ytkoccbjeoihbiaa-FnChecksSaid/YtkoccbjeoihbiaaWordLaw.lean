/- Plain laws of the sum of words: order does not matter, swapped words have the swapped sum, a sealed list is sound. No program's text. -/
import Derived.Test.YtkoccbjeoihbiaaWords
import Derived.Test.YtkoccbjeoihbiaaGood
namespace Go.Proofs.Ytkoccbjeoihbiaa
open Go.RowKit
set_option linter.unusedVariables false

/-- A sum's remainder as words are added. -/
def normW (s : Int) : Int := if s ≤ 0 then 0 else (s - 1) % 65535 + 1
theorem normW_add (s x : Int) (hs : 0 ≤ s) (h0 : 0 ≤ x) (h1 : x ≤ 65535) : addV (normW s) x = normW (s + x) := by
  unfold addV normW
  split <;> split <;> split <;> omega
theorem foldl_norm (zs : List Int) (hz : ∀ z ∈ zs, 0 ≤ z ∧ z ≤ 65535) : ∀ s : Int, 0 ≤ s → zs.foldl addV (normW s) = normW (s + zs.sum) := by
  induction zs with
  | nil => intro s hs; simp
  | cons z zs ih =>
    intro s hs
    have h := hz z (by simp)
    rw [List.foldl_cons, normW_add s z hs h.1 h.2, ih (fun y hy => hz y (by simp [hy])) (s + z) (by omega), List.sum_cons, Int.add_assoc]
theorem sum_nonneg (zs : List Int) (hz : ∀ z ∈ zs, 0 ≤ z ∧ z ≤ 65535) : 0 ≤ zs.sum := by
  induction zs with
  | nil => simp
  | cons z zs ih =>
    have h := hz z (by simp)
    have := ih (fun y hy => hz y (by simp [hy]))
    rw [List.sum_cons]
    omega
theorem sumW_norm (zs : List Int) (hz : ∀ z ∈ zs, 0 ≤ z ∧ z ≤ 65535) : sumW zs = normW zs.sum := by
  have := foldl_norm zs hz 0 (Int.le_refl _)
  rw [Int.zero_add] at this
  exact this
theorem sum_rev (zs : List Int) : zs.reverse.sum = zs.sum := by
  induction zs with
  | nil => rfl
  | cons z zs ih => rw [List.reverse_cons, List.sum_append, ih]; simp; omega
theorem sumW_rev (zs : List Int) (hz : ∀ z ∈ zs, 0 ≤ z ∧ z ≤ 65535) : sumW zs.reverse = sumW zs := by
  rw [sumW_norm _ (fun z h => hz z (List.mem_reverse.1 h)), sumW_norm _ hz, sum_rev]
def swp (x : Int) : Int := x % 256 * 256 + x / 256
theorem swp_rng {x : Int} (h0 : 0 ≤ x) (h1 : x ≤ 65535) : 0 ≤ swp x ∧ swp x ≤ 65535 := by unfold swp; omega
theorem sum_swp (zs : List Int) (hz : ∀ z ∈ zs, 0 ≤ z ∧ z ≤ 65535) : 0 ≤ (zs.map swp).sum ∧ (zs.sum = 0 ↔ (zs.map swp).sum = 0) ∧ ∃ q : Int, (zs.map swp).sum = 256 * zs.sum + 65535 * q := by
  induction zs with
  | nil => exact ⟨by simp, by simp, 0, by simp⟩
  | cons z zs ih =>
    have h := hz z (by simp)
    have hs := sum_nonneg zs (fun y hy => hz y (by simp [hy]))
    obtain ⟨i0, i1, q, hq⟩ := ih (fun y hy => hz y (by simp [hy]))
    have hr := swp_rng h.1 h.2
    rw [List.map_cons, List.sum_cons, List.sum_cons]
    refine ⟨by omega, ?_, q - z / 256, ?_⟩
    · have h0 : z = 0 ↔ swp z = 0 := by unfold swp; omega
      omega
    · rw [hq]
      unfold swp
      omega
theorem sumW_swp (zs : List Int) (hz : ∀ z ∈ zs, 0 ≤ z ∧ z ≤ 65535) : sumW (zs.map swp) = swp (sumW zs) := by
  have hz' : ∀ z ∈ zs.map swp, 0 ≤ z ∧ z ≤ 65535 := fun z h => by
    obtain ⟨y, hy, rfl⟩ := List.mem_map.1 h
    exact swp_rng (hz y hy).1 (hz y hy).2
  obtain ⟨i0, i1, q, hq⟩ := sum_swp zs hz
  have hs := sum_nonneg zs hz
  rw [sumW_norm _ hz', sumW_norm _ hz]
  generalize (zs.map swp).sum = T at *
  generalize zs.sum = S at *
  unfold normW swp
  split <;> split <;> omega
theorem sumW_seal (zs : List Int) (hz : ∀ z ∈ zs, 0 ≤ z ∧ z ≤ 65535) : sumW (zs ++ [65535 - sumW zs]) = 65535 := by
  have h : sumW (zs ++ [65535 - sumW zs]) = addV (sumW zs) (65535 - sumW zs) := by simp [sumW, List.foldl_append]
  rw [h]
  unfold addV
  split <;> omega
theorem AreW.mem {zs : List Int} (h : AreW zs) : ∀ z ∈ zs, 0 ≤ z ∧ z ≤ 65535 := fun z hz => by
  obtain ⟨i, hi, rfl⟩ := List.getElem_of_mem hz
  have := h i hi
  simpa [hi] using this
end Go.Proofs.Ytkoccbjeoihbiaa
