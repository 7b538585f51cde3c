/- The reference's draws of words, lists of words, texts: what is drawn lies in its range. -/
import Derived.Test.YtlammcoiaeodfaaGreatDoorDrawS
import Derived.Test.YtlammcoiaeodfaaGreatDoorLists
namespace Go.Proofs.YtlammcoiaeodfaaGreatDoor
open Go.RowKit
set_option linter.unusedVariables false
set_option maxRecDepth 100000

theorem Ints.pre {w : World} {H : Nat} {A : Option Addr} {xs ys : List Int} (h : Ints w H A (xs ++ ys)) : Ints w H A xs := fun hn => by
  obtain ⟨ad, e, hb, hc⟩ := h (by simp at hn ⊢; omega)
  refine ⟨ad, e, hb, fun j u hu => hc j u ?_⟩
  rw [List.map_append, List.getElem?_append_left (List.getElem?_eq_some_iff.1 hu).1]
  exact hu
/-- A list that is drawn. -/
def DrawsL (b N len : Nat) (P : Int → Prop) (w : World) (e : Ending) (w' : World) : Prop :=
  ∃ (A : Option Addr) (cap : Nat) (zs : List Int), e = .returned (.slice A zs.length cap) ∧ zs.length ≤ len ∧ (∀ z ∈ zs, P z) ∧ Cur w' b N ∧ OwnI w' w.heap.size A cap zs ∧ w.grownBy w' (some b)
/-- A list that a call drew. -/
def DrawnL (len : Nat) (P : Int → Prop) (w : World) (e : Ending) (w' : World) : Prop :=
  ∃ (A : Option Addr) (cap : Nat) (zs : List Int), e = .returned (.slice A zs.length cap) ∧ zs.length ≤ len ∧ (∀ z ∈ zs, P z) ∧ OwnI w' w.heap.size A cap zs ∧ Below w.heap.size w w'
theorem mem_snoc {P : Int → Prop} {zs : List Int} {z : Int} (h : ∀ x ∈ zs, P x) (hz : P z) : ∀ x ∈ zs ++ [z], P x := fun x hx => by
  rcases List.mem_append.1 hx with h1 | h1
  · exact h x h1
  · simp at h1
    subst h1
    exact hz
theorem OwnI.cur {w w' : World} {B b cap : Nat} {A : Option Addr} {zs : List Int} (h : OwnI w B A cap zs) (hg : w.grownBy w' (some b)) (hb : b < B) : OwnI w' B A cap zs :=
  h.far hg (T := b + 1) (fun k hk => by cases hk; exact Nat.lt_succ_self _) hb
theorem grown_then {a w w' : World} {row : Option Nat} {H : Nat} (h : a.grownBy w row) (k : Below H w w') (hH : a.heap.size ≤ H) : a.grownBy w' row :=
  ⟨k.os.trans h.os, k.tape.trans h.tape, k.output.trans h.output, Nat.le_trans h.size k.size, fun i hi hne => (k.block i (by omega)).trans (h.block i hi hne)⟩
end Go.Proofs.YtlammcoiaeodfaaGreatDoor
