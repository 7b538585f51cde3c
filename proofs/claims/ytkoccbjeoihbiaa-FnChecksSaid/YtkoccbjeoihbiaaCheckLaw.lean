/- Plain laws of checks: an updated check, and the sum of two texts of which the first has an even length. No program's text. -/
import Derived.Test.YtkoccbjeoihbiaaWordLaw
import Derived.Test.YtkoccbjeoihbiaaText
import Derived.Test.YtkoccbjeoihbiaaWordsF
import Derived.Test.YtkoccbjeoihbiaaGoodF
namespace Go.Proofs.Ytkoccbjeoihbiaa
open Go.RowKit
set_option linter.unusedVariables false
set_option maxRecDepth 100000

theorem normW_mod (s : Int) (h : 0 ≤ s) : ∃ q : Int, normW s = s - 65535 * q := by
  unfold normW
  split
  · exact ⟨0, by omega⟩
  · exact ⟨(s - 1) / 65535, by omega⟩
theorem addV_mod (a b : Int) : ∃ q : Int, addV a b = a + b - 65535 * q := by
  unfold addV
  split
  · exact ⟨1, by omega⟩
  · exact ⟨0, by omega⟩
theorem sum_set0 (zs : List Int) (h : 0 < zs.length) (v : Int) : (zs.set 0 v).sum = zs.sum - zs.getD 0 0 + v := by
  cases zs with
  | nil => simp at h
  | cons z r => simp; omega
theorem mem_set0 {zs : List Int} {v : Int} (hz : ∀ z ∈ zs, 0 ≤ z ∧ z ≤ 65535) (hv : 0 ≤ v ∧ v ≤ 65535) : ∀ z ∈ zs.set 0 v, 0 ≤ z ∧ z ≤ 65535 := fun z h => by
  rcases List.mem_or_eq_of_mem_set h with h | rfl
  · exact hz z h
  · exact hv
theorem good_mem {n : Nat} {zs : List Int} (h1 : zs.length ≤ n) (h : ∀ z ∈ zs, 0 ≤ z ∧ z ≤ 65535) : goodB n 65535 zs = true :=
  goodB_y h1 (fun i hi => inR_y (h _ (by rw [show zs.getD i 0 = zs[i] from by simp [hi]]; exact List.getElem_mem _)))
/-- The check of a list whose first word is replaced by its complement. -/
theorem upd_law (zs : List Int) (hg : goodB 40 65535 zs = true) (h0 : 0 < zs.length) :
    ∃ z before after again : Int, zs.getD 0 0 = z ∧ (0 ≤ z ∧ z ≤ 65535) ∧ (0 ≤ before ∧ before ≤ 65535) ∧ (0 ≤ after ∧ after ≤ 65535) ∧ (0 ≤ again ∧ again ≤ 65535) ∧ Hid (wordCheckR zs = before) ∧ Hid (goodB 40 65535 (zs.set 0 (65535 - z)) = true) ∧ Hid (wordCheckR (zs.set 0 (65535 - z)) = after) ∧ Hid (updOk before z (65535 - z) = true) ∧ Hid (updR before z (65535 - z) = again) ∧ (after - again).tmod 65535 = 0 := by
  have hm := (goodB_areW hg).mem
  have hl := (goodB_t hg).1
  have hs := sumW_all (goodB_areW hg)
  have hz := hm (zs.getD 0 0) (by rw [show zs.getD 0 0 = zs[0] from by simp [h0]]; exact List.getElem_mem _)
  have hn := sumW_norm zs hm
  have hsn := sum_nonneg zs hm
  generalize hzz : zs.getD 0 0 = z at *
  have hm2 := mem_set0 (v := 65535 - z) hm ⟨by omega, by omega⟩
  have g2 : goodB 40 65535 (zs.set 0 (65535 - z)) = true := good_mem (by simpa using hl) hm2
  have hs2 := sumW_all (goodB_areW g2)
  have hn2 := sumW_norm _ hm2
  have hsn2 := sum_nonneg _ hm2
  have e2 := sum_set0 zs h0 (65535 - z)
  rw [hzz] at e2
  have o : updOk (65535 - sumW zs) z (65535 - z) = true := by simp only [updOk, Bool.and_eq_true]; exact ⟨⟨inR_y ⟨by omega, by omega⟩, inR_y hz⟩, inR_y ⟨by omega, by omega⟩⟩
  have r1 := addV_rng (a := 65535 - (65535 - sumW zs)) (b := 65535 - z) (by omega) (by omega) (by omega) (by omega)
  have r2 := addV_rng (b := 65535 - z) r1.1 r1.2 (by omega) (by omega)
  refine ⟨z, 65535 - sumW zs, 65535 - sumW (zs.set 0 (65535 - z)), updV (65535 - sumW zs) z (65535 - z), rfl, hz, ⟨by omega, by omega⟩, ⟨by omega, by omega⟩, ?_, Lib.hid (by simp [wordCheckR, hg]), Lib.hid g2, Lib.hid (by simp [wordCheckR, g2]), Lib.hid o, Lib.hid (by simp [updR, o]), ?_⟩
  · unfold updV
    constructor <;> omega
  · obtain ⟨q1, h1⟩ := normW_mod zs.sum hsn
    obtain ⟨q2, h2⟩ := normW_mod (zs.set 0 (65535 - z)).sum hsn2
    obtain ⟨q3, h3⟩ := addV_mod (65535 - (65535 - sumW zs)) (65535 - z)
    obtain ⟨q4, h4⟩ := addV_mod (addV (65535 - (65535 - sumW zs)) (65535 - z)) (65535 - z)
    have : 65535 - sumW (zs.set 0 (65535 - z)) - updV (65535 - sumW zs) z (65535 - z) = 65535 * (1 + q2 - q1 - q3 - q4) := by
      unfold updV
      omega
    rw [this]
    exact Int.mul_tmod_right _ _
theorem getD_app (a b : ByteArray) (i : Nat) : (a ++ b).data.toList.getD i 0 = if i < a.size then a.data.toList.getD i 0 else b.data.toList.getD (i - a.size) 0 := by
  have e : (a ++ b).data.toList = a.data.toList ++ b.data.toList := by simp
  have hl : a.data.toList.length = a.size := by simp
  rw [e]
  simp only [List.getD_eq_getElem?_getD]
  split
  · rw [List.getElem?_append_left (by omega)]
  · rw [List.getElem?_append_right (by omega), hl]
theorem wAt_app_left (a b : ByteArray) (j : Nat) (he : a.size % 2 = 0) (h : 2 * j < a.size) : wAt (a ++ b) (a ++ b).size j = wAt a a.size j := by
  have hs : (a ++ b).size = a.size + b.size := ByteArray.size_append
  unfold wAt
  rw [hs, getD_app, getD_app, if_pos (by omega), if_pos (by omega), if_pos h, if_pos (by omega), if_pos (by omega), if_pos (by omega)]
theorem wAt_app_right (a b : ByteArray) (j : Nat) (he : a.size % 2 = 0) : wAt (a ++ b) (a ++ b).size (a.size / 2 + j) = wAt b b.size j := by
  have hs : (a ++ b).size = a.size + b.size := ByteArray.size_append
  unfold wAt
  rw [hs, getD_app, getD_app, if_neg (show ¬ 2 * (a.size / 2 + j) < a.size by omega), if_neg (show ¬ 2 * (a.size / 2 + j) + 1 < a.size by omega), show 2 * (a.size / 2 + j) - a.size = 2 * j by omega, show 2 * (a.size / 2 + j) + 1 - a.size = 2 * j + 1 by omega]
  have c1 : (2 * (a.size / 2 + j) < a.size + b.size) = (2 * j < b.size) := by apply propext; omega
  have c2 : (2 * (a.size / 2 + j) + 1 < a.size + b.size) = (2 * j + 1 < b.size) := by apply propext; omega
  simp only [c1, c2]
theorem wordsL_app (a b : ByteArray) (he : a.size % 2 = 0) : wordsL (a ++ b) = wordsL a ++ wordsL b := by
  have hs : (a ++ b).size = a.size + b.size := ByteArray.size_append
  have n1 : ((a ++ b).size + 1) / 2 = a.size / 2 + (b.size + 1) / 2 := by omega
  have n2 : (a.size + 1) / 2 = a.size / 2 := by omega
  unfold wordsL wordsK
  rw [n1, n2, List.range_add, List.map_append, List.map_map]
  congr 1
  · apply List.map_congr_left
    intro j hj
    have := List.mem_range.1 hj
    exact wAt_app_left a b j he (by omega)
  · apply List.map_congr_left
    intro j hj
    exact wAt_app_right a b j he
theorem normW_two (s t : Int) (hs : 0 ≤ s) (ht : 0 ≤ t) : normW (s + t) = addV (normW s) (normW t) := by
  unfold addV normW
  split <;> split <;> split <;> split <;> omega
theorem text_two (a b : ByteArray) (he : a.size % 2 = 0) : sumW (wordsL (a ++ b)) = addV (sumW (wordsL a)) (sumW (wordsL b)) := by
  have ha := (wordsL_areW a).mem
  have hb := (wordsL_areW b).mem
  rw [wordsL_app a b he, sumW_norm _ (fun z hz => (List.mem_append.1 hz).elim (ha z) (hb z)), sumW_norm _ ha, sumW_norm _ hb, List.sum_append]
  exact normW_two _ _ (sum_nonneg _ ha) (sum_nonneg _ hb)
theorem bytes_append_empty (a : ByteArray) : a ++ (⟨#[]⟩ : ByteArray) = a := ByteArray.append_empty
theorem bytes_empty_append (a : ByteArray) : (⟨#[]⟩ : ByteArray) ++ a = a := ByteArray.empty_append
theorem text_law (a b : ByteArray) (h : textOk a b = true) (he : a.size % 2 = 0) :
    ∃ x y : Int, Hid (textR a ⟨#[]⟩ = x) ∧ Hid (textOk a ⟨#[]⟩ = true) ∧ Hid (textR ⟨#[]⟩ b = y) ∧ Hid (textOk ⟨#[]⟩ b = true) ∧ Hid (addWordsOk x y = true) ∧ Hid (addWordsR x y = textR a b) := by
  have hl : a.size + b.size ≤ 80 := by simpa [textOk] using h
  have o1 : textOk a ⟨#[]⟩ = true := by simp [textOk]; show a.size + 0 ≤ 80; omega
  have o2 : textOk ⟨#[]⟩ b = true := by simp [textOk]; show 0 + b.size ≤ 80; omega
  have h1 := sumW_all (wordsL_areW a)
  have h2 := sumW_all (wordsL_areW b)
  have o3 : addWordsOk (sumW (wordsL a)) (sumW (wordsL b)) = true := by simp only [addWordsOk, Bool.and_eq_true]; exact ⟨inR_y h1, inR_y h2⟩
  refine ⟨sumW (wordsL a), sumW (wordsL b), Lib.hid ?_, Lib.hid o1, Lib.hid ?_, Lib.hid o2, Lib.hid o3, Lib.hid ?_⟩
  · simp only [textR, o1, if_true]
    rw [bytes_append_empty]
  · simp only [textR, o2, if_true]
    rw [bytes_empty_append]
  · simp only [addWordsR, o3, textR, h, if_true]
    exact (text_two a b he).symm
theorem addV_comm (a b : Int) : addV a b = addV b a := by unfold addV; rw [Int.add_comm]
theorem addWords_comm (a b : Int) : addWordsOk b a = addWordsOk a b ∧ addWordsR b a = addWordsR a b := by
  have h : addWordsOk b a = addWordsOk a b := by simp only [addWordsOk, Bool.and_comm]
  exact ⟨h, by simp only [addWordsR, h, addV_comm b a]⟩
theorem swap_law (x : Int) (h : swapOk x = true) : swapOk (swapR x) = true ∧ swapR (swapR x) = x := by
  have hx := inR_t h
  have e : swapR x = x % 256 * 256 + x / 256 := by simp [swapR, h]
  have h2 : swapOk (swapR x) = true := by rw [e]; exact inR_y ⟨by omega, by omega⟩
  refine ⟨h2, ?_⟩
  have e2 : ∀ y, swapOk y = true → swapR y = y % 256 * 256 + y / 256 := fun y hy => by simp [swapR, hy]
  rw [e2 _ h2, e]
  omega
end Go.Proofs.Ytkoccbjeoihbiaa
