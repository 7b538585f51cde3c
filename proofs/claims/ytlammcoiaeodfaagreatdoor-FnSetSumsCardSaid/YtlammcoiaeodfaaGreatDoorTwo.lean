/- Two lists of whole numbers of the call's own, each appended to in turn. -/
import Derived.Test.YtlammcoiaeodfaaGreatDoorLists
import Derived.Maps.AppendAt
namespace Go.Proofs.YtlammcoiaeodfaaGreatDoor
open Go.RowKit
set_option linter.unusedVariables false
set_option maxRecDepth 100000

def ownB (A : Option Addr) : Option Nat := A.map (·.block)
theorem ownB_eq (A : Option Addr) (n c : Nat) : Value.ownBlock (.slice A n c) = ownB A := by cases A <;> rfl
/-- 'append(out, x)' onto a list of the call's own: n its length as it stands there, r the new one; where the new one lies. -/
theorem wpList_appN2 (w : World) {ops : Array Oper} {rest : List Oper} {o : Oper} {a : Act} {Q : Exit → Act → World → Prop} (hg : o.guard = none) (s x : Operand)
    (ho : o.op = .call { callee := .builtin .append, args := #[s, x], argTypes := #[56, 56] }) (B : Nat) (A : Option Addr) (cap : Nat) (zs : List Int) (n r : Nat) (hn : zs.length = n) (hr : n + 1 = r)
    (hs : a.eval s = .slice A n cap) (hown : OwnI w B A cap zs) (z : Int) (ad : Addr) (hx : a.eval x = .slice (some ad) 1 1) (hz : w.cell? ad = some (.int .i64 z))
    (hl : n ≤ 100000000) (hB : B ≤ w.heap.size)
    (h : ∀ A' cap' w', OwnI w' B A' cap' (zs ++ [z]) → w.grownBy w' (ownB A) → (ownB A' = ownB A ∨ ownB A' = some w.heap.size) → wpList Tryz.prog ops Q rest (a.put o.dst (.slice A' r cap')) w') : wpList Tryz.prog ops Q (o :: rest) a w := by
  subst hn
  subst hr
  obtain ⟨i0, hi, hz0, hz1, hz2⟩ := info_parts int_info
  refine wpList_append_own_at w hg s x 56 ho B 3 i0 (.int .i64 0) 1 8 Tryz.underlying56 hi hz0 hz1 hz2 rfl (by omega) _ zs.length (zs.map (Value.int .i64)) hs hown ad 1 1 [.int .i64 z] hx rfl ?_ ?_ (by unfold maxLen; omega) (by omega) hB ?_
  · intro j u hu
    match j, hu with
    | 0, hu => simp at hu; subst hu; rw [add_zero']; exact hz
    | j + 1, hu => simp at hu
  · intro u hu
    simp at hu
    subst hu
    rfl
  · intro v' w' hown' hgrow _ hat
    rw [ownB_eq] at hgrow hat
    rcases hown'.2 with ⟨_, h0⟩ | ⟨g, c, cur, rfl, _⟩
    · omega
    · rw [ownB_eq] at hat
      refine h _ _ _ ?_ hgrow hat
      have e : zs.map (Value.int .i64) ++ [Value.int .i64 z] = (zs ++ [z]).map (Value.int .i64) := by simp
      rw [e] at hown'
      unfold OwnI
      rw [List.length_append]
      exact hown'
/-- Two lists in two blocks. -/
def Two (w : World) (B : Nat) (A1 : Option Addr) (c1 : Nat) (xs : List Int) (A2 : Option Addr) (c2 : Nat) (ys : List Int) : Prop :=
  OwnI w B A1 c1 xs ∧ OwnI w B A2 c2 ys ∧ ∀ k, ownB A1 = some k → ownB A2 ≠ some k
theorem Two.symm {w : World} {B c1 c2 : Nat} {A1 A2 : Option Addr} {xs ys : List Int} (h : Two w B A1 c1 xs A2 c2 ys) : Two w B A2 c2 ys A1 c1 xs := ⟨h.2.1, h.1, fun k h2 h1 => h.2.2 k h1 h2⟩
theorem Two.push {w : World} {B c1 c2 : Nat} {A1 A2 : Option Addr} {xs ys : List Int} (h : Two w B A1 c1 xs A2 c2 ys) (o : Obj) : Two (w.alloc o) B A1 c1 xs A2 c2 ys := ⟨h.1.push o, h.2.1.push o, h.2.2⟩
theorem Two.fst {w w' : World} {B c1 c2 c1' : Nat} {A1 A2 A1' : Option Addr} {xs ys xs' : List Int} (h : Two w B A1 c1 xs A2 c2 ys) (hown : OwnI w' B A1' c1' xs') (hg : w.grownBy w' (ownB A1)) (hat : ownB A1' = ownB A1 ∨ ownB A1' = some w.heap.size) : Two w' B A1' c1' xs' A2 c2 ys := by
  refine ⟨hown, World.ownsRow.kept h.2.1 hg ?_, fun k hk => ?_⟩
  · rw [ownB_eq]
    cases hA : ownB A2 with
    | none => exact .inl rfl
    | some k => exact .inr (fun e => h.2.2 k e.symm hA)
  · rcases hat with e | e
    · exact h.2.2 k (by rw [← e]; exact hk)
    · intro h2
      have := (World.ownsRow.lt h.2.1 k (by rw [ownB_eq]; exact h2)).2
      rw [e] at hk
      injection hk with hk
      omega
theorem Two.start (w : World) : Two ((w.alloc (.cells #[] 3)).alloc (.cells #[] 3)) w.heap.size (some ⟨w.heap.size, 0, none⟩) 0 [] (some ⟨w.heap.size + 1, 0, none⟩) 0 [] := by
  refine ⟨(OwnI.empty w _ (Nat.le_refl _)).push _, ?_, fun k h1 h2 => ?_⟩
  · have := OwnI.empty (w.alloc (.cells #[] 3)) w.heap.size (by simp)
    simpa using this
  · simp [ownB] at h1 h2
    omega
theorem grown_own {a w w' : World} {H : Nat} {A : Option Addr} (h : Below H a w) (g : w.grownBy w' (ownB A)) (hH : H ≤ w.heap.size) (hA : ∀ k, ownB A = some k → H ≤ k) : Below H a w' := h.grown g hH hA
theorem OwnI.low {w : World} {B c : Nat} {A : Option Addr} {zs : List Int} (h : OwnI w B A c zs) : ∀ k, ownB A = some k → B ≤ k := fun k hk => (World.ownsRow.lt h k (by rw [ownB_eq]; exact hk)).1
end Go.Proofs.YtlammcoiaeodfaaGreatDoor
