/- The sizes of two sets' union, common numbers and rest; a union turned round; a set out of its common numbers and its rest. -/
import Derived.Test.YtlammcoiaeodfaaGreatDoorSetLaw
import Derived.Test.YtlammcoiaeodfaaGreatDoorSpecU
import Derived.Test.YtlammcoiaeodfaaGreatDoorSetsF
import Derived.Test.YtlammcoiaeodfaaGreatDoorParseL
import Derived.Test.YtlammcoiaeodfaaGreatDoorSetS
namespace Go.Proofs.YtlammcoiaeodfaaGreatDoor
open Go.RowKit
set_option linter.unusedVariables false

theorem sizeL_sum (rs : List (Int × Int)) : sizeL rs = sizeR rs := by
  unfold sizeL sizeR
  have : ∀ (l : List (Int × Int)) (n : Int), l.foldl (fun n r => n + r.2 - r.1 + 1) n = n + (l.map fun r => r.2 - r.1 + 1).sum := by
    intro l
    induction l with
    | nil => intro n; simp
    | cons r t ih =>
      intro n
      rw [List.foldl_cons, ih, List.map_cons, List.sum_cons]
      omega
  rw [this]
  omega
theorem sOk_p {c : Bool} {L : List (Int × Int)} (h : sOk c L = true) : c = true ∧ setB L = true ∧ sgl c L = L := by
  simp only [sOk, Bool.and_eq_true] at h
  refine ⟨h.1, h.2, ?_⟩
  unfold sgl sOk
  rw [h.1, h.2]
  rfl
theorem size_rng (L : List (Int × Int)) : 0 ≤ setSizeR L ∧ setSizeR L ≤ 65536 := by
  unfold setSizeR
  split
  · next h =>
    rw [sizeL_sum, sizeR_cnt L 0 (Int.le_refl _) (setB_nf0 h).1]
    have : cntR 65536 (inB L) ≤ 65536 := by
      have := List.countP_le_length (p := inB L) (l := List.range 65536)
      rw [List.length_range] at this
      exact this
    omega
  · omega
theorem uni_nf {a b : List (Int × Int)} (h : uniOk a b = true) : setB a = true ∧ setB b = true ∧ Nf 0 a ∧ Nf 0 b := by
  simp only [uniOk, Bool.and_eq_true] at h
  exact ⟨h.1, h.2, (setB_nf0 h.1).1, (setB_nf0 h.2).1⟩
theorem add_all {a b : List (Int × Int)} (ha : Nf 0 a) (hb : Nf 0 b) : Nf 0 (addAll a b) ∧ ∀ x, hasN (addAll a b) x ↔ hasN a x ∨ hasN b x :=
  addAll_law b a ha (fun q hq => hb.all q hq)
theorem com_all {a b : List (Int × Int)} (ha : Nf 0 a) (hb : Nf 0 b) : Nf 0 (remAll a (remAll a b)) ∧ ∀ x, hasN (remAll a (remAll a b)) x ↔ hasN a x ∧ hasN b x := by
  obtain ⟨w1, w2⟩ := without_law ha hb
  obtain ⟨v1, v2⟩ := without_law ha w1
  refine ⟨v1, fun x => ?_⟩
  rw [v2, w2]
  constructor
  · rintro ⟨k1, k2⟩
    exact ⟨k1, Classical.byContradiction fun k => k2 ⟨k1, k⟩⟩
  · rintro ⟨k1, k2⟩
    exact ⟨k1, fun k => k.2 k2⟩
/-- The union and the common numbers. -/
theorem sums_one {a b : List (Int × Int)} (hu : sOk (uniOk a b) (addAll a b) = true) (hc : sOk (uniOk a b) (remAll a (remAll a b)) = true) :
    setB a = true ∧ setB b = true ∧ setB (sgl (uniOk a b) (addAll a b)) = true ∧ setB (sgl (uniOk a b) (remAll a (remAll a b))) = true ∧
    setSizeR (sgl (uniOk a b) (addAll a b)) + setSizeR (sgl (uniOk a b) (remAll a (remAll a b))) = setSizeR a + setSizeR b ∧
    sOk (uniOk b a) (addAll b a) = true ∧ sgl (uniOk b a) (addAll b a) = sgl (uniOk a b) (addAll a b) := by
  obtain ⟨h1, h2, h3⟩ := sOk_p hu
  obtain ⟨_, k2, k3⟩ := sOk_p hc
  obtain ⟨sa, sb, na, nb⟩ := uni_nf h1
  obtain ⟨u1, u2⟩ := add_all na nb
  obtain ⟨v1, v2⟩ := add_all nb na
  obtain ⟨c1, c2⟩ := com_all na nb
  have e : addAll b a = addAll a b := v1.ext u1 (fun x => by rw [u2, v2]; exact Or.comm)
  have e2 : uniOk b a = true := by unfold uniOk; rw [sa, sb]; rfl
  rw [h3, k3]
  refine ⟨sa, sb, h2, k2, ?_, ?_, ?_⟩
  · unfold setSizeR
    rw [h2, k2, sa, sb, if_pos rfl, if_pos rfl, if_pos rfl, if_pos rfl, sizeL_sum, sizeL_sum, sizeL_sum, sizeL_sum]
    exact sizeR_two na nb u1 c1 u2 c2
  · rw [e2, e]
    unfold sOk
    rw [h2]
    rfl
  · rw [e2, e, ← h1, h3]
/-- The common numbers and the rest. -/
theorem sums_two {a b : List (Int × Int)} (hc : sOk (uniOk a b) (remAll a (remAll a b)) = true) (hr : sOk (uniOk a b) (remAll a b) = true) :
    setB (sgl (uniOk a b) (remAll a (remAll a b))) = true ∧ setB (sgl (uniOk a b) (remAll a b)) = true ∧
    setSizeR (sgl (uniOk a b) (remAll a (remAll a b))) + setSizeR (sgl (uniOk a b) (remAll a b)) = setSizeR a ∧
    (sOk (uniOk (sgl (uniOk a b) (remAll a (remAll a b))) (sgl (uniOk a b) (remAll a b))) (addAll (sgl (uniOk a b) (remAll a (remAll a b))) (sgl (uniOk a b) (remAll a b))) = true →
      sgl (uniOk (sgl (uniOk a b) (remAll a (remAll a b))) (sgl (uniOk a b) (remAll a b))) (addAll (sgl (uniOk a b) (remAll a (remAll a b))) (sgl (uniOk a b) (remAll a b))) = a) := by
  obtain ⟨h1, h2, h3⟩ := sOk_p hc
  obtain ⟨_, k2, k3⟩ := sOk_p hr
  obtain ⟨sa, sb, na, nb⟩ := uni_nf h1
  obtain ⟨c1, c2⟩ := com_all na nb
  obtain ⟨r1, r2⟩ := without_law na nb
  obtain ⟨u1, u2⟩ := add_all c1 r1
  have e : addAll (remAll a (remAll a b)) (remAll a b) = a := u1.ext na (fun x => by
    rw [u2, c2, r2]
    constructor
    · rintro (h | h)
      · exact h.1
      · exact h.1
    · intro h
      by_cases k : hasN b x
      · exact .inl ⟨h, k⟩
      · exact .inr ⟨h, k⟩)
  rw [h3, k3]
  refine ⟨h2, k2, ?_, fun h => (sOk_p h).2.2.trans e⟩
  unfold setSizeR
  rw [h2, k2, sa, if_pos rfl, if_pos rfl, if_pos rfl, sizeL_sum, sizeL_sum, sizeL_sum]
  have := sizeR_two (a := remAll a (remAll a b)) (b := remAll a b) (u := a) (v := []) c1 r1 na trivial (fun x => by rw [← u2, e]) (fun x => by
    rw [c2, r2]
    constructor
    · intro h
      exact absurd h (hasN_nil x)
    · rintro ⟨h, k⟩
      exact absurd h.2 k.2)
  have e2 : sizeR [] = 0 := rfl
  rw [e2] at this
  omega
/-- A set out of its text. -/
theorem text_back {rs : List (Int × Int)} (h : setB rs = true) : prL (setTT rs) = rs ∧ prOk (setTT rs) = true := by
  have e : setTT rs = setT rs := by unfold setTT; rw [if_pos h]
  rw [e]
  exact pr_some (pI_setT (setB_good.1 h))
/-- Lists of ranges in memory. -/
def RsAt (W : World) (l : List (Option Addr × List (Int × Int))) : Prop := ∀ p ∈ l, Rngs W W.heap.size p.1 p.2
theorem RsAt.nil (W : World) : RsAt W [] := fun p hp => by simp at hp
theorem RsAt.cons {W : World} {A : Option Addr} {rs : List (Int × Int)} {l : List (Option Addr × List (Int × Int))} (h : Rngs W W.heap.size A rs) (k : RsAt W l) : RsAt W ((A, rs) :: l) := fun p hp => by
  rcases List.mem_cons.1 hp with rfl | hp
  · exact h
  · exact k p hp
theorem RsAt.keep {W W' : World} {l : List (Option Addr × List (Int × Int))} (h : RsAt W l) (b : Below W.heap.size W W') : RsAt W' l := fun p hp => ((h p hp).keep b).more b.size
theorem RsAt.tail {W : World} {p : Option Addr × List (Int × Int)} {l : List (Option Addr × List (Int × Int))} (h : RsAt W (p :: l)) : RsAt W l := fun q hq => h q (List.mem_cons_of_mem _ hq)
theorem RsAt.at0 {W : World} {A : Option Addr} {rs : List (Int × Int)} {l : List (Option Addr × List (Int × Int))} (h : RsAt W ((A, rs) :: l)) : Rngs W W.heap.size A rs := h (A, rs) List.mem_cons_self
theorem RsAt.at1 {W : World} {p : Option Addr × List (Int × Int)} {A : Option Addr} {rs : List (Int × Int)} {l : List (Option Addr × List (Int × Int))} (h : RsAt W (p :: (A, rs) :: l)) : Rngs W W.heap.size A rs := h.tail.at0
theorem RsAt.at2 {W : World} {p p' : Option Addr × List (Int × Int)} {A : Option Addr} {rs : List (Int × Int)} {l : List (Option Addr × List (Int × Int))} (h : RsAt W (p :: p' :: (A, rs) :: l)) : Rngs W W.heap.size A rs := h.tail.at1
theorem RsAt.at3 {W : World} {p p' p2 : Option Addr × List (Int × Int)} {A : Option Addr} {rs : List (Int × Int)} {l : List (Option Addr × List (Int × Int))} (h : RsAt W (p :: p' :: p2 :: (A, rs) :: l)) : Rngs W W.heap.size A rs := h.tail.at2
theorem RsAt.at4 {W : World} {p p' p2 p3 : Option Addr × List (Int × Int)} {A : Option Addr} {rs : List (Int × Int)} {l : List (Option Addr × List (Int × Int))} (h : RsAt W (p :: p' :: p2 :: p3 :: (A, rs) :: l)) : Rngs W W.heap.size A rs := h.tail.at3
end Go.Proofs.YtlammcoiaeodfaaGreatDoor
