/- A set's text, read in two ways: both answer alike. No program's text. -/
import Derived.Test.YtlammcoiaeodfaaGreatDoorSetTxt
import Derived.Test.YtlammcoiaeodfaaGreatDoorSetBr
namespace Go.Proofs.YtlammcoiaeodfaaGreatDoor
open Go.Lib

/-- What is made of the ranges that were read. -/
def chkP (l : List UInt8) : Option (List (Int × Int)) → Option (List (Int × Int))
  | some rs => if setB rs && decide (setT rs = l) then some rs else none
  | none => none
/-- A text, as the program reads it and as the reference does. -/
def pI (l : List UInt8) : Option (List (Int × Int)) := if l = noneT then some [] else chkP l (allO partI (spl 44 l))
def pS (l : List UInt8) : Option (List (Int × Int)) := if l = noneT then some [] else if 120 < l.length then none else chkP l (allO partS (spl 44 l))
theorem chkP_some {f : List UInt8 → Option (Int × Int)} {l : List UInt8} {rs : List (Int × Int)} (h : chkP l (allO f (spl 44 l)) = some rs) : rs ≠ [] ∧ goodR rs ∧ setT rs = l := by
  cases e : allO f (spl 44 l) with
  | none => rw [e] at h; cases h
  | some qs =>
    rw [e] at h
    simp only [chkP] at h
    split at h
    · rename_i hc
      injection h with h
      subst h
      simp only [Bool.and_eq_true, decide_eq_true_eq] at hc
      refine ⟨?_, setB_good.1 hc.1, hc.2⟩
      intro e0
      have hl := allO_len e
      rw [e0] at hl
      exact spl_ne 44 l (List.eq_nil_of_length_eq_zero hl.symm)
    · cases h
theorem chkP_mk {f : List UInt8 → Option (Int × Int)} (hf : ∀ r, wordR r → f (rTxt r) = some r) {l : List UInt8} {rs : List (Int × Int)} (h0 : rs ≠ []) (hg : goodR rs) (ht : setT rs = l) : chkP l (allO f (spl 44 l)) = some rs := by
  subst ht
  rw [parse_unique hf h0 hg]
  simp [chkP, setB_good.2 hg]
theorem pI_eq (l : List UInt8) : pI l = pS l := by
  unfold pI pS
  by_cases hn : l = noneT
  · rw [if_pos hn, if_pos hn]
  · rw [if_neg hn, if_neg hn]
    have key : ∀ {f g : List UInt8 → Option (Int × Int)}, (∀ r, wordR r → g (rTxt r) = some r) → ∀ rs, chkP l (allO f (spl 44 l)) = some rs → chkP l (allO g (spl 44 l)) = some rs := fun hg rs h => by
      obtain ⟨h0, h1, h2⟩ := chkP_some h
      exact chkP_mk hg h0 h1 h2
    by_cases hl : 120 < l.length
    · rw [if_pos hl]
      cases e : chkP l (allO partI (spl 44 l)) with
      | none => rfl
      | some rs =>
        obtain ⟨h0, h1, h2⟩ := chkP_some e
        have := setT_len (goodR_word h1) h1.2
        rw [h2] at this
        omega
    · rw [if_neg hl]
      cases e : chkP l (allO partI (spl 44 l)) with
      | none =>
        cases e2 : chkP l (allO partS (spl 44 l)) with
        | none => rfl
        | some rs => rw [key (fun r h => partI_rTxt h) rs e2] at e; cases e
      | some rs => exact (key (fun r h => partS_rTxt h) rs e).symm
/-- A set's text is read as that set. -/
theorem pI_setT {rs : List (Int × Int)} (hg : goodR rs) : pI (setT rs) = some rs := by
  unfold pI
  by_cases h : rs = []
  · subst h
    rfl
  · rw [if_neg (setT_none h (goodR_word hg))]
    exact chkP_mk (fun r h => partI_rTxt h) h hg rfl
def prL (l : List UInt8) : List (Int × Int) := (pI l).getD []
def prOk (l : List UInt8) : Bool := (pI l).isSome
theorem prL_len (l : List UInt8) : (prL l).length ≤ 10 := by
  unfold prL
  cases e : pI l with
  | none => simp
  | some rs =>
    unfold pI at e
    split at e
    · injection e with e
      subst e
      simp
    · exact (chkP_some e).2.1.2
theorem pr_none {l : List UInt8} (h : pI l = none) : prL l = [] ∧ prOk l = false := by simp [prL, prOk, h]
theorem pr_some {l : List UInt8} {rs : List (Int × Int)} (h : pI l = some rs) : prL l = rs ∧ prOk l = true := by simp [prL, prOk, h]
/-- Steps of reading all parts. -/
theorem allO_take {α β : Type} {f : α → Option β} {l : List α} {k : Nat} {L : List β} (hk : k < l.length) (h : allO f (l.take k) = some L) : allO f (l.take (k + 1)) = match f l[k] with | some y => some (L ++ [y]) | none => none := by
  rw [List.take_succ_eq_append_getElem hk, allO_snoc, h]
  cases f l[k] <;> rfl
theorem allO_stop {α β : Type} {f : α → Option β} {l : List α} {k : Nat} (hk : k < l.length) (h : f l[k] = none) : allO f l = none := allO_none (List.getElem_mem hk) h
end Go.Proofs.YtlammcoiaeodfaaGreatDoor
