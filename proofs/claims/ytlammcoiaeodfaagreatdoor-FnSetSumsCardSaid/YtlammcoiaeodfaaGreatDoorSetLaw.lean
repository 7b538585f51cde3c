/- What the program makes of sets (sorted, merged, turned round) is what the reference makes (range by range). No program's text. -/
import Derived.Test.YtlammcoiaeodfaaGreatDoorRset
namespace Go.Proofs.YtlammcoiaeodfaaGreatDoor

def Sorted1 (d : List (Int × Int)) : Prop := d.Pairwise (fun a b => a.1 ≤ b.1)
theorem nf_one {f t : Int} : Nf 0 [(f, t)] ↔ 0 ≤ f ∧ f ≤ t ∧ t ≤ 65535 := by
  constructor
  · rintro ⟨h1, h2, h3, _⟩
    exact ⟨h1, h2, h3⟩
  · rintro ⟨h1, h2, h3⟩
    exact ⟨h1, h2, h3, trivial⟩
theorem merge_has {a b d : List (Int × Int)} (ha : Nf 0 a) (hb : Nf 0 b) (hp : d.Perm (a ++ b)) (hs : Sorted1 d) : Nf 0 (mergeL d) ∧ ∀ x, hasN (mergeL d) x ↔ hasN a x ∨ hasN b x := by
  have hr : Rise 0 d := rise_of_sorted d 0 hs (fun q hq => by
    rcases List.mem_append.1 (hp.mem_iff.1 hq) with h | h
    · exact ha.all q h
    · exact hb.all q h)
  obtain ⟨h1, h2⟩ := mergeL_law hr
  exact ⟨h1, fun x => by rw [h2, hasN_perm hp, hasN_append]⟩
theorem union_eq {a b d : List (Int × Int)} (ha : Nf 0 a) (hb : Nf 0 b) (hp : d.Perm (a ++ b)) (hs : Sorted1 d) : mergeL d = addAll a b := by
  obtain ⟨h1, h2⟩ := merge_has ha hb hp hs
  obtain ⟨h3, h4⟩ := addAll_law b a ha (fun q hq => hb.all q hq)
  exact h1.ext h3 (fun x => by rw [h2, h4])
theorem without_law {a b : List (Int × Int)} (ha : Nf 0 a) (hb : Nf 0 b) : Nf 0 (remAll a b) ∧ ∀ x, hasN (remAll a b) x ↔ hasN a x ∧ ¬ hasN b x :=
  remAll_law b a ha (fun q hq => (hb.all q hq).2.1)
theorem common_has {a b d : List (Int × Int)} (ha : Nf 0 a) (hb : Nf 0 b) (hp : d.Perm (oppL a ++ oppL b)) (hs : Sorted1 d) : Nf 0 (oppL (mergeL d)) ∧ ∀ x, hasN (oppL (mergeL d)) x ↔ hasN a x ∧ hasN b x := by
  obtain ⟨a1, a2⟩ := oppL_law ha
  obtain ⟨b1, b2⟩ := oppL_law hb
  obtain ⟨h1, h2⟩ := merge_has a1 b1 hp hs
  obtain ⟨h3, h4⟩ := oppL_law h1
  refine ⟨h3, fun x => ?_⟩
  rw [h4, h2, a2, b2]
  constructor
  · rintro ⟨hx, h⟩
    constructor
    · exact Classical.byContradiction fun k => h (.inl ⟨hx, k⟩)
    · exact Classical.byContradiction fun k => h (.inr ⟨hx, k⟩)
  · rintro ⟨hxa, hxb⟩
    refine ⟨ha.ge x hxa, ?_⟩
    rintro (⟨_, k⟩ | ⟨_, k⟩)
    · exact k hxa
    · exact k hxb
theorem common_eq {a b d : List (Int × Int)} (ha : Nf 0 a) (hb : Nf 0 b) (hp : d.Perm (oppL a ++ oppL b)) (hs : Sorted1 d) : oppL (mergeL d) = remAll a (remAll a b) := by
  obtain ⟨h1, h2⟩ := common_has ha hb hp hs
  obtain ⟨w1, w2⟩ := without_law ha hb
  obtain ⟨v1, v2⟩ := without_law ha w1
  refine h1.ext v1 (fun x => ?_)
  rw [h2, v2, w2]
  constructor
  · rintro ⟨k1, k2⟩
    exact ⟨k1, fun k => k.2 k2⟩
  · rintro ⟨k1, k2⟩
    exact ⟨k1, Classical.byContradiction fun k => k2 ⟨k1, k⟩⟩
theorem without_eq {a b d : List (Int × Int)} (ha : Nf 0 a) (hb : Nf 0 b) (hp : d.Perm (oppL a ++ oppL (oppL b))) (hs : Sorted1 d) : oppL (mergeL d) = remAll a b := by
  obtain ⟨b1, b2⟩ := oppL_law hb
  obtain ⟨h1, h2⟩ := common_has ha b1 hp hs
  obtain ⟨w1, w2⟩ := without_law ha hb
  refine h1.ext w1 (fun x => ?_)
  rw [h2, w2, b2]
  constructor
  · rintro ⟨k1, _, k2⟩
    exact ⟨k1, k2⟩
  · rintro ⟨k1, k2⟩
    exact ⟨k1, ha.ge x k1, k2⟩
theorem addAll_one (s : List (Int × Int)) (r : Int × Int) : addAll s [r] = addL s r := rfl
theorem remAll_one (s : List (Int × Int)) (r : Int × Int) : remAll s [r] = remL s r := rfl
/-! Lengths. -/
theorem mergeR_len : ∀ (t : List (Int × Int)) (c : Int × Int), (mergeR c t).length ≤ t.length + 1
  | [], c => by simp [mergeR]
  | r :: t, c => by
    unfold mergeR
    split
    · have := mergeR_len t (c.1, max c.2 r.2)
      simp only [List.length_cons]
      omega
    · have := mergeR_len t r
      simp only [List.length_cons]
      omega
theorem oppR_len : ∀ (s : List (Int × Int)) (f : Int), (oppR f s).length ≤ s.length + 1
  | [], f => by unfold oppR; split <;> simp
  | r :: t, f => by
    unfold oppR
    have := oppR_len t (r.2 + 1)
    rw [List.length_append]
    split
    · simp only [List.length_cons, List.length_nil]
      omega
    · simp only [List.length_cons, List.length_nil]
      omega
end Go.Proofs.YtlammcoiaeodfaaGreatDoor
