/- A text cut at every instance of one byte, and its parts joined again. No program's text. -/
import Derived.WalkKit
import Derived.Lib.SplitLaws
import Derived.Lib.Join
import Derived.Lib.SlTrimSet
namespace Go.Proofs.YtlammcoiaeodfaaGreatDoor
open Go.Lib

/-- A text cut at every b. -/
def spl (b : UInt8) : List UInt8 → List (List UInt8)
  | [] => [[]]
  | c :: t => if c = b then [] :: spl b t else (c :: (spl b t).headD []) :: (spl b t).tail
theorem spl_ne (b : UInt8) (l : List UInt8) : spl b l ≠ [] := by
  cases l with
  | nil => simp [spl]
  | cons c t => unfold spl; split <;> simp
theorem spl_pos (b : UInt8) (l : List UInt8) : 0 < (spl b l).length := by
  rcases h : spl b l with _ | ⟨x, r⟩
  · exact absurd h (spl_ne b l)
  · simp
theorem spl_none {b : UInt8} : ∀ {l : List UInt8}, b ∉ l → spl b l = [l]
  | [], _ => rfl
  | c :: t, h => by
    have h1 : c ≠ b := fun e => h (by simp [e])
    have h2 : b ∉ t := fun e => h (by simp [e])
    unfold spl
    rw [if_neg h1, spl_none h2]
    rfl
theorem spl_hit {b : UInt8} : ∀ {p : List UInt8} (r : List UInt8), b ∉ p → spl b (p ++ b :: r) = p :: spl b r
  | [], r, _ => by simp [spl]
  | c :: t, r, h => by
    have h1 : c ≠ b := fun e => h (by simp [e])
    have h2 : b ∉ t := fun e => h (by simp [e])
    have e : spl b (c :: (t ++ b :: r)) = if c = b then [] :: spl b (t ++ b :: r) else (c :: (spl b (t ++ b :: r)).headD []) :: (spl b (t ++ b :: r)).tail := rfl
    rw [List.cons_append, e, if_neg h1, spl_hit r h2]
    rfl
/-- Parts with b between them. -/
def jn (b : UInt8) : List (List UInt8) → List UInt8
  | [] => []
  | [x] => x
  | x :: y :: r => x ++ b :: jn b (y :: r)
theorem jn_cons (b : UInt8) (x : List UInt8) {r : List (List UInt8)} (h : r ≠ []) : jn b (x :: r) = x ++ b :: jn b r := by
  cases r with
  | nil => exact absurd rfl h
  | cons y r => rfl
theorem jn_snoc (b : UInt8) : ∀ (xs : List (List UInt8)) (x : List UInt8), xs ≠ [] → jn b (xs ++ [x]) = jn b xs ++ b :: x
  | [], _, h => absurd rfl h
  | [y], x, _ => rfl
  | y :: z :: r, x, _ => by
    rw [List.cons_append, jn_cons b y (by simp), jn_snoc b (z :: r) x (by simp), jn_cons b y (by simp)]
    simp
theorem join_jn (b : UInt8) : ∀ xs : List (List UInt8), join xs [b] = jn b xs
  | [] => rfl
  | [x] => by rw [join_one]; rfl
  | x :: y :: r => by
    rw [join_cons, jn_cons b x (by simp), ← join_jn b (y :: r), join_cons]
    simp [joinTail]
theorem jn_spl (b : UInt8) : ∀ l : List UInt8, jn b (spl b l) = l
  | [] => rfl
  | c :: t => by
    have ih := jn_spl b t
    unfold spl
    by_cases h : c = b
    · rw [if_pos h, jn_cons b [] (spl_ne b t), ih, h]
      rfl
    · rw [if_neg h]
      rcases e : spl b t with _ | ⟨x, r⟩
      · exact absurd e (spl_ne b t)
      · rw [e] at ih
        cases r with
        | nil =>
          have : x = t := ih
          simp [jn, this]
        | cons y r =>
          rw [jn_cons b x (by simp)] at ih
          show jn b ((c :: x) :: y :: r) = c :: t
          rw [jn_cons b (c :: x) (by simp), ← ih]
          rfl
theorem spl_jn {b : UInt8} : ∀ (xs : List (List UInt8)), xs ≠ [] → (∀ x ∈ xs, b ∉ x) → spl b (jn b xs) = xs
  | [], h, _ => absurd rfl h
  | [x], _, h => spl_none (h x (by simp))
  | x :: y :: r, _, h => by
    rw [jn_cons b x (by simp), spl_hit _ (h x (by simp)), spl_jn (y :: r) (by simp) (fun z hz => h z (by simp [hz]))]
theorem spl_not_mem {b : UInt8} : ∀ (l : List UInt8), ∀ x ∈ spl b l, b ∉ x
  | [], x, h => by simp [spl] at h; simp [h]
  | c :: t, x, h => by
    have ih := spl_not_mem (b := b) t
    unfold spl at h
    by_cases k : c = b
    · rw [if_pos k] at h
      rcases List.mem_cons.1 h with rfl | h
      · simp
      · exact ih x h
    · rw [if_neg k] at h
      rcases e : spl b t with _ | ⟨y, r⟩
      · exact absurd e (spl_ne b t)
      · rw [e] at h ih
        rcases List.mem_cons.1 h with rfl | h
        · intro hb
          rcases List.mem_cons.1 hb with hb | hb
          · exact k hb.symm
          · exact ih y (by simp) (by simpa using hb)
        · exact ih x (List.mem_cons_of_mem _ h)
theorem jn_take_le (b : UInt8) (xs : List (List UInt8)) (k : Nat) : (jn b (xs.take k)).length ≤ (jn b xs).length := by
  induction xs generalizing k with
  | nil => simp
  | cons x r ih =>
    cases k with
    | zero => simp [jn]
    | succ k =>
      rw [List.take_succ_cons]
      by_cases h : r.take k = []
      · rw [h]
        by_cases h2 : r = []
        · rw [h2]; exact Nat.le_refl _
        · rw [jn_cons b x h2]
          simp [jn]
      · have h2 : r ≠ [] := fun e => h (by rw [e]; simp)
        rw [jn_cons b x h, jn_cons b x h2]
        have := ih k
        simp
        omega
theorem jn_elem_le (b : UInt8) : ∀ (xs : List (List UInt8)), ∀ x ∈ xs, x.length ≤ (jn b xs).length
  | [], x, h => by simp at h
  | [y], x, h => by simp at h; simp [h, jn]
  | y :: z :: r, x, h => by
    rw [jn_cons b y (by simp)]
    rcases List.mem_cons.1 h with rfl | h
    · simp
    · have := jn_elem_le b (z :: r) x h
      simp
      omega
theorem spl_elem_le (b : UInt8) (l : List UInt8) : ∀ x ∈ spl b l, x.length ≤ l.length := fun x hx => by
  have := jn_elem_le b (spl b l) x hx
  rwa [jn_spl] at this
theorem spl_len_le (b : UInt8) : ∀ l : List UInt8, (spl b l).length ≤ l.length + 1
  | [] => by simp [spl]
  | c :: t => by
    have ih := spl_len_le b t
    unfold spl
    split
    · simp; omega
    · simp; omega

/-! The library's words at one byte. -/
theorem occ_one (s : List UInt8) (b : UInt8) (i : Nat) : occAt s [b] i = true ↔ s[i]? = some b := by
  unfold occAt
  rw [List.isPrefixOf_iff_prefix]
  constructor
  · rintro ⟨r, hr⟩
    have : (s.drop i)[0]? = some b := by rw [← hr]; rfl
    simpa using this
  · intro h
    obtain ⟨hi, e⟩ := List.getElem?_eq_some_iff.1 h
    refine ⟨s.drop (i + 1), ?_⟩
    rw [List.drop_eq_getElem_cons hi, e]
    rfl
theorem index_miss {s : List UInt8} {b : UInt8} (h : b ∉ s) : index s [b] = -1 := by
  refine index_none fun j _ => ?_
  rw [Bool.eq_false_iff]
  intro k
  exact h (List.mem_of_getElem? ((occ_one s b j).1 k))
theorem index_at {b : UInt8} {p : List UInt8} (r : List UInt8) (h : b ∉ p) : index (p ++ b :: r) [b] = p.length := by
  refine index_first (by simp) ((occ_one _ b _).2 (by simp)) fun j hj => ?_
  rw [Bool.eq_false_iff]
  intro k
  have := (occ_one _ b j).1 k
  rw [List.getElem?_append_left hj] at this
  exact h (List.mem_of_getElem? this)
/-- A text has no b, or is cut at its first one. -/
theorem cut_cases (b : UInt8) : ∀ s : List UInt8, b ∉ s ∨ ∃ p r, s = p ++ b :: r ∧ b ∉ p
  | [] => .inl (by simp)
  | c :: t => by
    by_cases k : c = b
    · exact .inr ⟨[], t, by simp [k], by simp⟩
    · rcases cut_cases b t with h | ⟨p, r, rfl, h⟩
      · exact .inl (by simp [h, Ne.symm k])
      · exact .inr ⟨c :: p, r, rfl, by simp [h, Ne.symm k]⟩
theorem contains_iff (s : List UInt8) (b : UInt8) : contains s [b] = true ↔ b ∈ s := by
  unfold contains
  rw [decide_eq_true_eq]
  rcases cut_cases b s with h | ⟨p, r, rfl, h⟩
  · rw [index_miss h]
    simp [h]
  · rw [index_at r h]
    simp
theorem cut_miss {s : List UInt8} {b : UInt8} (h : b ∉ s) : cut s [b] = (s, [], false) := by
  unfold cut
  rw [index_miss h, if_neg (by omega)]
theorem cut_at {b : UInt8} {p : List UInt8} (r : List UInt8) (h : b ∉ p) : cut (p ++ b :: r) [b] = (p, r, true) := by
  unfold cut
  rw [index_at r h, if_pos (by omega)]
  simp
theorem splitK_spl (b : UInt8) : ∀ (k : Nat) (s : List UInt8), k = count s [b] → splitK [b] 0 k s = spl b s
  | 0, s, hk => by
    rcases cut_cases b s with h | ⟨p, r, rfl, h⟩
    · rw [spl_none h]; rfl
    · rw [count_hit (by simp) (index_at r h)] at hk
      omega
  | k + 1, s, hk => by
    rcases cut_cases b s with h | ⟨p, r, rfl, h⟩
    · rw [count_miss (index_miss h)] at hk
      omega
    · have hc := count_hit (by simp) (index_at r h)
      have hd : (p ++ b :: r).drop (p.length + [b].length) = r := by simp
      rw [hd] at hc
      unfold splitK
      rw [index_at r h, if_neg (by simp), spl_hit r h]
      have : (p ++ b :: r).drop ((p.length : Int).toNat + [b].length) = r := by simp
      rw [this, splitK_spl b k r (by omega)]
      simp
theorem split_spl (s : List UInt8) (b : UInt8) : split s [b] = spl b s := splitK_spl b _ s rfl
theorem count_spl (b : UInt8) (s : List UInt8) : (spl b s).length = count s [b] + 1 := by
  induction h : s.length using Nat.strongRecOn generalizing s with
  | ind n ih =>
    rcases cut_cases b s with k | ⟨p, r, rfl, k⟩
    · rw [spl_none k, count_miss (index_miss k)]; rfl
    · have hc := count_hit (by simp) (index_at r k)
      have hd : (p ++ b :: r).drop (p.length + [b].length) = r := by simp
      rw [hd] at hc
      rw [spl_hit r k, hc, List.length_cons, ih r.length (by simp at h; omega) r rfl]
      omega
/-- A text of letters: nothing is left of it when they are trimmed. -/
theorem trim_all (l cs : List UInt8) : trimS l cs = [] ↔ ∀ x ∈ l, x ∈ cs := by
  unfold trimS trimLeftS trimRightS
  have key : ∀ m : List UInt8, m.dropWhile (cs.contains ·) = [] ↔ ∀ x ∈ m, x ∈ cs := by
    intro m
    induction m with
    | nil => simp
    | cons a t ih =>
      rw [List.dropWhile_cons]
      split
      · rename_i h
        rw [ih]
        have : a ∈ cs := by simpa using h
        simp [this]
      · rename_i h
        have : a ∉ cs := by simpa using h
        simp [this]
  rw [key]
  constructor
  · intro h
    by_cases e : l.reverse.dropWhile (cs.contains ·) = []
    · have := (key _).1 e
      intro x hx
      exact this x (by simpa using hx)
    · exfalso
      have hh := List.head_dropWhile_not (cs.contains ·) (l := l.reverse) e
      have hm : (l.reverse.dropWhile (cs.contains ·)).head e ∈ cs := h _ (by simp)
      have : cs.contains ((l.reverse.dropWhile (cs.contains ·)).head e) = true := by simpa using hm
      rw [this] at hh
      cases hh
  · intro h x hx
    have : x ∈ l.reverse.dropWhile (cs.contains ·) := by simpa using hx
    have := (List.dropWhile_sublist _).subset this
    exact h x (by simpa using this)
end Go.Proofs.YtlammcoiaeodfaaGreatDoor
