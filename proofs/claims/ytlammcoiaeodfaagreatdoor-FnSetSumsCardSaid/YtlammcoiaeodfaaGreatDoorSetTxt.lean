/- The texts of sets: written, and read back in two ways. No program's text. -/
import Derived.Test.YtlammcoiaeodfaaGreatDoorRset
import Derived.Test.YtlammcoiaeodfaaGreatDoorSplitL
import Derived.Test.YtlammcoiaeodfaaGreatDoorDec
namespace Go.Proofs.YtlammcoiaeodfaaGreatDoor
open Go.Lib

def rTxt (r : Int × Int) : List UInt8 := itoa r.1 ++ (if r.1 < r.2 then 45 :: itoa r.2 else [])
def noneT : List UInt8 := [110, 111, 110, 101]
def setT (rs : List (Int × Int)) : List UInt8 := if rs.isEmpty then noneT else jn 44 (rs.map rTxt)
/-- A part as the program reads it, and as the reference does. -/
def pairO (a b : Option Int) : Option (Int × Int) := match a with | some x => (match b with | some y => some (x, y) | none => none) | none => none
def partI (p : List UInt8) : Option (Int × Int) := pairO (readI (cut p [45]).1) (readI (if (cut p [45]).2.2 then (cut p [45]).2.1 else (cut p [45]).1))
def partS (p : List UInt8) : Option (Int × Int) := pairO (readI ((spl 45 p).headD [])) (readI ((spl 45 p).getLastD []))
def allO {α β : Type} (f : α → Option β) : List α → Option (List β)
  | [] => some []
  | x :: t => match f x with | some y => (match allO f t with | some ys => some (y :: ys) | none => none) | none => none
theorem allO_map {α β : Type} {f : α → Option β} {g : β → α} : ∀ (l : List β), (∀ r ∈ l, f (g r) = some r) → allO f (l.map g) = some l
  | [], _ => rfl
  | x :: t, h => by
    simp only [List.map_cons, allO]
    rw [h x (by simp), allO_map t (fun r hr => h r (by simp [hr]))]
theorem allO_snoc {α β : Type} {f : α → Option β} (x : α) : ∀ (l : List α), allO f (l ++ [x]) = match allO f l with | some ys => (match f x with | some y => some (ys ++ [y]) | none => none) | none => none
  | [] => by
    simp only [List.nil_append, allO]
  | a :: t => by
    simp only [List.cons_append, allO]
    rw [allO_snoc x t]
    cases f a with
    | none => rfl
    | some y =>
      simp only []
      cases allO f t with
      | none => rfl
      | some ys => cases f x <;> rfl
theorem allO_len {α β : Type} {f : α → Option β} : ∀ {l : List α} {ys : List β}, allO f l = some ys → ys.length = l.length
  | [], ys, h => by simp [allO] at h; simp [← h]
  | x :: t, ys, h => by
    simp only [allO] at h
    cases hf : f x with
    | none => rw [hf] at h; cases h
    | some y =>
      rw [hf] at h
      simp only [] at h
      cases ht : allO f t with
      | none => rw [ht] at h; cases h
      | some zs =>
        rw [ht] at h
        injection h with h
        rw [← h, List.length_cons, List.length_cons, allO_len ht]
theorem allO_none {α β : Type} {f : α → Option β} {x : α} : ∀ {l : List α}, x ∈ l → f x = none → allO f l = none
  | [], h, _ => by simp at h
  | a :: t, h, hf => by
    simp only [allO]
    rcases List.mem_cons.1 h with rfl | h
    · rw [hf]
    · rw [allO_none h hf]
      cases f a <;> rfl
theorem digits_byte {u : Nat} {b : UInt8} (h : b ∈ decDigits u) : 48 ≤ b.toNat ∧ b.toNat ≤ 57 := by
  obtain ⟨k, hk⟩ := List.mem_iff_getElem?.1 h
  obtain ⟨d, hd⟩ := digit_of_decFrom _ _ _ (decFrom_digits u) k b hk
  have := digitVal_eq hd
  omega
theorem itoa_no {n : Int} (h : 0 ≤ n) {b : UInt8} (hb : b.toNat < 48) : b ∉ itoa n := by
  rw [itoa_pos' h]
  intro k
  have := digits_byte k
  omega
theorem word_ok {n : Int} (h0 : 0 ≤ n) (h1 : n ≤ 65535) : numOk n = true := numOk_mk (by omega) (by omega)
theorem word_len {n : Int} (h0 : 0 ≤ n) (h1 : n ≤ 65535) : 1 ≤ (itoa n).length ∧ (itoa n).length ≤ 5 := by
  rw [itoa_pos' h0]
  exact ⟨decDigits_pos _, decDigits_len 4 _ (by omega)⟩
def wordR (r : Int × Int) : Prop := 0 ≤ r.1 ∧ r.1 ≤ r.2 ∧ r.2 ≤ 65535
theorem rTxt_no44 {r : Int × Int} (h : wordR r) : (44 : UInt8) ∉ rTxt r := by
  obtain ⟨h0, h1, h2⟩ := h
  unfold rTxt
  intro k
  rcases List.mem_append.1 k with k | k
  · exact itoa_no h0 (by decide) k
  · split at k
    · rcases List.mem_cons.1 k with k | k
      · cases k
      · exact itoa_no (by omega) (by decide) k
    · simp at k
theorem rTxt_len {r : Int × Int} (h : wordR r) : 1 ≤ (rTxt r).length ∧ (rTxt r).length ≤ 11 := by
  obtain ⟨h0, h1, h2⟩ := h
  have a := word_len h0 (by omega)
  have b := word_len (n := r.2) (by omega) h2
  unfold rTxt
  rw [List.length_append]
  split
  · simp
    omega
  · simp
    omega
theorem partI_rTxt {r : Int × Int} (h : wordR r) : partI (rTxt r) = some r := by
  obtain ⟨h0, h1, h2⟩ := h
  unfold partI rTxt
  have n45 : (45 : UInt8) ∉ itoa r.1 := itoa_no h0 (by decide)
  by_cases c : r.1 < r.2
  · rw [if_pos c, cut_at _ n45]
    simp only [if_true]
    rw [readI_itoa (word_ok h0 (by omega)), readI_itoa (word_ok (by omega) h2)]
    rfl
  · rw [if_neg c, List.append_nil, cut_miss n45]
    simp only [Bool.false_eq_true, if_false]
    rw [readI_itoa (word_ok h0 (by omega))]
    show some (r.1, r.1) = some r
    rw [show (r.1, r.1) = r from Prod.ext rfl (by omega)]
theorem partS_rTxt {r : Int × Int} (h : wordR r) : partS (rTxt r) = some r := by
  obtain ⟨h0, h1, h2⟩ := h
  unfold partS rTxt
  have n45 : (45 : UInt8) ∉ itoa r.1 := itoa_no h0 (by decide)
  by_cases c : r.1 < r.2
  · have m45 : (45 : UInt8) ∉ itoa r.2 := itoa_no (by omega) (by decide)
    rw [if_pos c, spl_hit _ n45, spl_none m45]
    simp only [List.headD_cons]
    rw [readI_itoa (word_ok h0 (by omega)), show ([itoa r.1, itoa r.2] : List (List UInt8)).getLastD [] = itoa r.2 from rfl, readI_itoa (word_ok (by omega) h2)]
    rfl
  · rw [if_neg c, List.append_nil, spl_none n45]
    simp only [List.headD_cons]
    rw [show ([itoa r.1] : List (List UInt8)).getLastD [] = itoa r.1 from rfl, readI_itoa (word_ok h0 (by omega))]
    show some (r.1, r.1) = some r
    rw [show (r.1, r.1) = r from Prod.ext rfl (by omega)]
theorem setT_cons {rs : List (Int × Int)} (h : rs ≠ []) : setT rs = jn 44 (rs.map rTxt) := by
  unfold setT
  rw [if_neg (by simpa using h)]
theorem spl_setT {rs : List (Int × Int)} (h : rs ≠ []) (hw : ∀ r ∈ rs, wordR r) : spl 44 (setT rs) = rs.map rTxt := by
  rw [setT_cons h, spl_jn _ (by simpa using h)]
  intro x hx
  obtain ⟨r, hr, rfl⟩ := List.mem_map.1 hx
  exact rTxt_no44 (hw r hr)
theorem jn_len (b : UInt8) (m : Nat) : ∀ (xs : List (List UInt8)), (∀ x ∈ xs, x.length ≤ m) → (jn b xs).length ≤ xs.length * (m + 1)
  | [], _ => by simp [jn]
  | [x], h => by
    have := h x (by simp)
    simp [jn]
    omega
  | x :: y :: r, h => by
    have ih := jn_len b m (y :: r) (fun z hz => h z (by simp [hz]))
    have h1 := h x (by simp)
    rw [jn_cons b x (by simp), List.length_append, List.length_cons]
    rw [List.length_cons (a := x), Nat.add_mul]
    omega
theorem setT_len {rs : List (Int × Int)} (hw : ∀ r ∈ rs, wordR r) (hl : rs.length ≤ 10) : (setT rs).length ≤ 120 := by
  by_cases h : rs = []
  · subst h
    decide
  · rw [setT_cons h]
    have := jn_len 44 11 (rs.map rTxt) (fun x hx => by
      obtain ⟨r, hr, rfl⟩ := List.mem_map.1 hx
      exact (rTxt_len (hw r hr)).2)
    rw [List.length_map] at this
    omega
/-- No set's text but that of the empty one is the word 'none'. -/
theorem setT_none {rs : List (Int × Int)} (h : rs ≠ []) (hw : ∀ r ∈ rs, wordR r) : setT rs ≠ noneT := by
  intro e
  have h1 := spl_setT h hw
  rw [e] at h1
  have h2 : spl 44 noneT = [noneT] := rfl
  rw [h2] at h1
  match rs, h with
  | [r], _ =>
    simp at h1
    have hr := hw r (by simp)
    have hp := partI_rTxt hr
    rw [← h1] at hp
    have : partI noneT = none := by
      unfold partI
      rw [cut_miss (by decide)]
      have : readI noneT = none := by
        unfold readI
        have : atoi noneT = none := by decide
        rw [this]
      simp only []
      rw [this]
      rfl
    rw [this] at hp
    cases hp
  | r :: q :: t, _ => simp at h1
theorem goodR_word {rs : List (Int × Int)} (h : goodR rs) : ∀ r ∈ rs, wordR r := fun r hr => h.1.all r hr
theorem parse_unique {f : List UInt8 → Option (Int × Int)} (hf : ∀ r, wordR r → f (rTxt r) = some r) {rs : List (Int × Int)} (h : rs ≠ []) (hg : goodR rs) : allO f (spl 44 (setT rs)) = some rs := by
  rw [spl_setT h (goodR_word hg)]
  exact allO_map rs (fun r hr => hf r (goodR_word hg r hr))
end Go.Proofs.YtlammcoiaeodfaaGreatDoor
