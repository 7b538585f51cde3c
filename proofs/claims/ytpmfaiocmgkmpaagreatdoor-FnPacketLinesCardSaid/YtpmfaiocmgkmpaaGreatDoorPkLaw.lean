/- Packets and their octets: back again, and one octet changed. -/
import Derived.Test.YtpmfaiocmgkmpaaGreatDoorOctP
import Derived.Test.YtpmfaiocmgkmpaaGreatDoorHex
namespace Go.Proofs.YtpmfaiocmgkmpaaGreatDoor
open Go.RowKit
set_option linter.unusedVariables false
set_option maxRecDepth 100000

def pkK (zs : List Int) : Int := zs.getD 0 0
def pkN (zs : List Int) : Int := 256 * zs.getD 1 0 + zs.getD 2 0
def pkT (zs : List Int) : Int := 256 * zs.getD 3 0 + zs.getD 4 0
def pkL (zs : List Int) : Int := 256 * zs.getD 5 0 + zs.getD 6 0
def pkD (zs : List Int) : List UInt8 := ((zs.drop 8).take (zs.length - 10)).map fun z => UInt8.ofNat z.toNat
theorem octL_eq (k n t l : Int) (d : List UInt8) : octL k n t l d = [k, n / 256, n % 256, t / 256, t % 256, l / 256, l % 256, (d.length : Int)] ++ (octD d ++ [chkO (octB k n t l d) / 256, chkO (octB k n t l d) % 256]) := by
  unfold octL
  conv => lhs; arg 1; unfold octB octH
  rw [List.append_assoc]
theorem pk_octL {k n t l : Int} {d : List UInt8} (h : goodP k n t l d = true) : pkK (octL k n t l d) = k ∧ pkN (octL k n t l d) = n ∧ pkT (octL k n t l d) = t ∧ pkL (octL k n t l d) = l ∧ pkD (octL k n t l d) = d := by
  obtain ⟨hk, hn, ht, hl, _, hd⟩ := goodP_t h
  have e := octL_eq k n t l d
  refine ⟨by rw [e]; rfl, ?_, ?_, ?_, ?_⟩
  · rw [e]
    show 256 * (n / 256) + n % 256 = n
    omega
  · rw [e]
    show 256 * (t / 256) + t % 256 = t
    omega
  · rw [e]
    show 256 * (l / 256) + l % 256 = l
    omega
  · unfold pkD
    rw [octL_length, e, show 8 + d.length + 2 - 10 = d.length from by omega]
    rw [List.drop_append_of_le_length (by simp), show ([k, n / 256, n % 256, t / 256, t % 256, l / 256, l % 256, (d.length : Int)].drop 8) = [] from rfl, List.nil_append, List.take_append_of_le_length (by rw [octD_length]; exact Nat.le_refl _), List.take_of_length_le (by rw [octD_length]; exact Nat.le_refl _)]
    unfold octD
    rw [List.map_map]
    conv => rhs; rw [← List.map_id d]
    refine List.map_congr_left fun c _ => ?_
    simp
theorem octL_isO {k n t l : Int} {d : List UInt8} (h : goodP k n t l d = true) : IsO (octL k n t l d) := fun z hz => by
  obtain ⟨h1, _⟩ := octB_areO h
  have hc := chkO_lt (octB k n t l d)
  unfold octL at hz
  rcases List.mem_append.1 hz with hz | hz
  · obtain ⟨j, hj, rfl⟩ := List.getElem_of_mem hz
    have := h1 j hj
    simpa [hj] using this
  · simp only [List.mem_cons, List.mem_nil_iff, or_false] at hz
    rcases hz with rfl | rfl <;> omega
/-- The octets of a packet: of ten to eighteen, and of no other packet's. -/
def decZ (zs : List Int) : Bool := decide (10 ≤ zs.length) && decide (zs.length ≤ 18) && goodP (pkK zs) (pkN zs) (pkT zs) (pkL zs) (pkD zs) && decide (octL (pkK zs) (pkN zs) (pkT zs) (pkL zs) (pkD zs) = zs)
def decOk (s : List UInt8) : Bool := match unhex s with | some zs => decZ zs | none => false
theorem decZ_octL {k n t l : Int} {d : List UInt8} (h : goodP k n t l d = true) : decZ (octL k n t l d) = true := by
  obtain ⟨e1, e2, e3, e4, e5⟩ := pk_octL h
  have hd := (goodP_t h).2.2.2.2.2
  unfold decZ
  rw [e1, e2, e3, e4, e5, h, octL_length]
  simp
  omega
theorem dec_enc {k n t l : Int} {d : List UInt8} (h : goodP k n t l d = true) : unhex (hexL (octL k n t l d)) = some (octL k n t l d) ∧ decOk (hexL (octL k n t l d)) = true := by
  have e := unhex_hexL _ (octL_isO h)
  exact ⟨e, by unfold decOk; rw [e]; exact decZ_octL h⟩
theorem sumO_low {a b : List Int} : ∀ k, (∀ i, i < k → a.getD i 0 = b.getD i 0) → sumO a k = sumO b k
  | 0, _ => rfl
  | k + 1, h => by
    rw [sumO, sumO, sumO_low k (fun i hi => h i (by omega)), h k (by omega)]
theorem sumO_set (zs : List Int) (j : Nat) (v : Int) : ∀ k, j < k → k ≤ zs.length → sumO (zs.set j v) k = sumO zs k + ((j : Int) + 1) * (v - zs.getD j 0)
  | 0, h, _ => by omega
  | k + 1, h, hk => by
    rw [sumO, sumO]
    by_cases e : j = k
    · subst e
      rw [sumO_low (a := zs.set j v) (b := zs) j (fun i hi => by
        rw [List.getD_eq_getElem?_getD, List.getD_eq_getElem?_getD, List.getElem?_set_ne (by omega)])]
      rw [show (zs.set j v).getD j 0 = v from by rw [List.getD_eq_getElem?_getD, List.getElem?_set_self (by omega)]; rfl]
      rw [Int.mul_sub]
      omega
    · rw [sumO_set zs j v k (by omega) (by omega)]
      rw [show (zs.set j v).getD k 0 = zs.getD k 0 from by rw [List.getD_eq_getElem?_getD, List.getD_eq_getElem?_getD, List.getElem?_set_ne e]]
      omega
theorem decZ_t {zs : List Int} (h : decZ zs = true) : ∃ k n t l d, goodP k n t l d = true ∧ zs = octL k n t l d := by
  simp only [decZ, Bool.and_eq_true, decide_eq_true_eq] at h
  exact ⟨_, _, _, _, _, h.1.2, h.2.symm⟩
theorem last_two {a b : List Int} {x y u v : Int} (h : a ++ [x, y] = b ++ [u, v]) : a = b ∧ x = u ∧ y = v := by
  have hl := congrArg List.length h
  simp at hl
  have := List.append_inj h hl
  simpa using this
/-- One octet changed: no packet's octets. -/
theorem oct_changed {zs : List Int} {j : Nat} {v : Int} (h : decZ zs = true) (hj : j < zs.length) (hv : v ≠ zs.getD j 0) (h0 : 0 ≤ v) (h1 : v ≤ 255) : decZ (zs.set j v) = false := by
  rw [Bool.eq_false_iff]
  intro h'
  obtain ⟨k, n, t, l, d, hg, rfl⟩ := decZ_t h
  obtain ⟨k', n', t', l', d', hg', e⟩ := decZ_t h'
  obtain ⟨ho, hlen⟩ := octB_areO hg
  have hB := octB_length k n t l d
  rw [octL_length] at hj
  unfold octL at e hv
  by_cases c : j < (octB k n t l d).length
  · rw [List.set_append_left _ _ c] at e
    obtain ⟨e1, e2, e3⟩ := last_two e
    have hz : (octB k n t l d ++ [chkO (octB k n t l d) / 256, chkO (octB k n t l d) % 256]).getD j 0 = (octB k n t l d).getD j 0 := by
      rw [List.getD_eq_getElem?_getD, List.getD_eq_getElem?_getD, List.getElem?_append_left c]
    rw [hz] at hv
    rw [← e1] at e2 e3
    have hs := sumO_set (octB k n t l d) j v (octB k n t l d).length c (Nat.le_refl _)
    have hr := ho j c
    have hc : chkO ((octB k n t l d).set j v) = chkO (octB k n t l d) := by omega
    unfold chkO at hc
    rw [List.length_set, hs] at hc
    generalize sumO (octB k n t l d) (octB k n t l d).length = S at hc
    generalize (octB k n t l d).getD j 0 = x at *
    have hj16 : j < 16 := by omega
    have hd1 : ((j : Int) + 1) * (v - x) ≤ 16 * 255 := by
      by_cases hp : 0 ≤ v - x
      · exact Int.mul_le_mul (by omega) (by omega) hp (by omega)
      · have := Int.mul_nonneg (a := (j : Int) + 1) (b := x - v) (by omega) (by omega)
        rw [Int.mul_sub] at this ⊢
        omega
    have hd2 : -(16 * 255) ≤ ((j : Int) + 1) * (v - x) := by
      by_cases hp : 0 ≤ x - v
      · have := Int.mul_le_mul (a := (j : Int) + 1) (b := x - v) (c := 16) (d := 255) (by omega) (by omega) hp (by omega)
        rw [Int.mul_sub] at this ⊢
        omega
      · have := Int.mul_nonneg (a := (j : Int) + 1) (b := v - x) (by omega) (by omega)
        omega
    have hd3 : ((j : Int) + 1) * (v - x) ≠ 0 := fun hz0 => by
      rcases Int.mul_eq_zero.1 hz0 with h2 | h2 <;> omega
    omega
  · rw [List.set_append_right _ _ (by omega)] at e
    have hl2 : ([chkO (octB k n t l d) / 256, chkO (octB k n t l d) % 256].set (j - (octB k n t l d).length) v).length = 2 := by simp
    have e1 : octB k n t l d = octB k' n' t' l' d' := by
      have hlen2 := congrArg List.length e
      simp only [List.length_append, List.length_set, List.length_cons, List.length_nil] at hlen2
      exact (List.append_inj e (by omega)).1
    rw [← e1] at e
    have e2 := List.append_cancel_left e
    have hjj : j - (octB k n t l d).length = 0 ∨ j - (octB k n t l d).length = 1 := by omega
    rw [List.getD_eq_getElem?_getD, List.getElem?_append_right (by omega)] at hv
    rcases hjj with h2 | h2
    · rw [h2] at e2 hv
      simp at e2 hv
      exact hv e2
    · rw [h2] at e2 hv
      simp at e2 hv
      exact hv e2
theorem octAt_next (a b : UInt8) (t : List UInt8) (k : Nat) : octAt (a :: b :: t) (k + 1) = octAt t k := by
  unfold octAt
  rw [show 2 * (k + 1) = 2 * k + 1 + 1 from by omega]
  simp
theorem octAt_hexL : ∀ (zs : List Int) (k : Nat), IsO zs → k < zs.length → octAt (hexL zs) k = zs.getD k 0
  | [], k, _, h => by simp at h
  | x :: zs, 0, h, _ => by
    have hx0 := h x (by simp)
    rw [hexL_cons]
    unfold octAt
    show 16 * digI (hx (x / 16).toNat) + digI (hx (x % 16).toNat) = x
    rw [digI_hx _ (by omega), digI_hx _ (by omega)]
    omega
  | x :: zs, k + 1, h, hk => by
    rw [hexL_cons, octAt_next, octAt_hexL zs k (fun z hz => h z (by simp [hz])) (by simpa using hk)]
    simp
theorem octAt_set {s : List UInt8} {i k : Nat} {c : UInt8} (h : k ≠ i / 2) : octAt (s.set i c) k = octAt s k := by
  unfold octAt
  rw [List.getD_eq_getElem?_getD, List.getD_eq_getElem?_getD, List.getD_eq_getElem?_getD, List.getD_eq_getElem?_getD, List.getElem?_set_ne (by omega), List.getElem?_set_ne (by omega)]
theorem digit_changed {s : List UInt8} {i : Nat} {c : UInt8} (h : decOk s = true) (hi : i < s.length) (hc : c ≠ s[i]) : decOk (s.set i c) = false := by
  rw [Bool.eq_false_iff]
  intro h'
  unfold decOk at h h'
  cases e : unhex s with
  | none => rw [e] at h; cases h
  | some zs =>
    cases e' : unhex (s.set i c) with
    | none => rw [e'] at h'; cases h'
    | some zs' =>
      rw [e] at h
      rw [e'] at h'
      simp only [] at h h'
      obtain ⟨o1, x1, l1⟩ := hexL_unhex _ s zs (Nat.le_refl _) e
      obtain ⟨o2, x2, l2⟩ := hexL_unhex _ _ zs' (Nat.le_refl _) e'
      rw [List.length_set] at l2
      have hl : zs'.length = zs.length := by omega
      have hj : i / 2 < zs.length := by omega
      have hz : zs' = zs.set (i / 2) (zs'.getD (i / 2) 0) := by
        refine List.ext_getElem (by rw [List.length_set]; exact hl) fun k h1 h2 => ?_
        by_cases ek : i / 2 = k
        · subst ek
          rw [List.getElem_set_self]
          simp [h1]
        · rw [List.getElem_set_ne ek]
          have a1 := octAt_hexL zs' k o2 h1
          have a2 := octAt_hexL zs k o1 (by omega)
          rw [x2, octAt_set (Ne.symm ek)] at a1
          rw [x1, a1] at a2
          simpa [h1, show k < zs.length from by omega] using a2
      have hv : zs'.getD (i / 2) 0 ≠ zs.getD (i / 2) 0 := fun ev => by
        have : zs' = zs := by
          rw [hz, ev]
          refine List.ext_getElem (by simp) fun k h1 h2 => ?_
          by_cases ek : i / 2 = k
          · subst ek
            rw [List.getElem_set_self]
            simp [hj]
          · rw [List.getElem_set_ne ek]
        rw [this, x1] at x2
        have h3 : s[i] = (s.set i c)[i]'(by rw [List.length_set]; exact hi) := by simp only [← x2]
        rw [List.getElem_set_self] at h3
        exact hc h3.symm
      have hr := o2 (zs'.getD (i / 2) 0) (by rw [show zs'.getD (i / 2) 0 = zs'[i / 2] from by simp [show i / 2 < zs'.length from by omega]]; exact List.getElem_mem _)
      rw [hz, oct_changed h hj hv hr.1 hr.2] at h'
      cases h'
end Go.Proofs.YtpmfaiocmgkmpaaGreatDoor
