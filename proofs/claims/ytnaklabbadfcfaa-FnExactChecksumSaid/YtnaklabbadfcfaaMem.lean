/- Words for memory: a slice that reads as a list of values, of whole numbers; kept over whatever leaves the old cells alone. No program. -/
import Derived.WalkKit
import Derived.Lib.Hide
namespace Go.Proofs.Ytnaklabbadfcfaa
open Go.RowKit

/-- The address A leads to the cells xs, which lie in a block of the world. -/
def Lies (w : World) (A : Option Addr) (xs : List Value) : Prop :=
  0 < xs.length → ∃ ad, A = some ad ∧ ad.block < w.heap.size ∧ ∀ j u, xs[j]? = some u → w.cell? (ad.add j) = some u
/-- Nothing that lies in w has turned in w', as far as its cells go. -/
def Kept (w w' : World) : Prop := w.heap.size ≤ w'.heap.size ∧ ∀ p : Addr, p.block < w.heap.size → w'.cell? p = w.cell? p
theorem Kept.refl (w : World) : Kept w w := ⟨Nat.le_refl _, fun _ _ => rfl⟩
theorem Kept.trans {a b c : World} (h : Kept a b) (k : Kept b c) : Kept a c :=
  ⟨Nat.le_trans h.1 k.1, fun p hp => (k.2 p (Nat.lt_of_lt_of_le hp h.1)).trans (h.2 p hp)⟩
theorem Kept.of_below {w w' : World} (h : Below w.heap.size w w') : Kept w w' := ⟨h.size, fun _ hp => h.cell hp⟩
theorem Kept.alloc (w : World) (o : Obj) : Kept w (w.alloc o) := ⟨by simp, fun p hp => World.cell?_alloc_lt w o p hp⟩
theorem Kept.drew (w : World) : Kept w w.drew := ⟨Nat.le_refl _, fun _ _ => rfl⟩
theorem block_of_add (a : Addr) (n : Nat) : (a.add n).block = a.block := by unfold Addr.add; split <;> rfl
theorem Lies.keep {w w' : World} {A : Option Addr} {xs : List Value} (h : Lies w A xs) (k : Kept w w') : Lies w' A xs := fun hn => by
  obtain ⟨ad, e, hb, hc⟩ := h hn
  exact ⟨ad, e, Nat.lt_of_lt_of_le hb k.1, fun j u hu => (k.2 _ (by rw [block_of_add]; exact hb)).trans (hc j u hu)⟩

/-- The address A leads to the whole numbers zs. -/
def Ints (w : World) (A : Option Addr) (zs : List Int) : Prop := Lies w A (zs.map (Value.int .i64))
theorem Ints.keep {w w' : World} {A : Option Addr} {zs : List Int} (h : Ints w A zs) (k : Kept w w') : Ints w' A zs := Lies.keep h k
theorem Ints.at_ {w : World} {A : Option Addr} {zs : List Int} (h : Ints w A zs) {k : Nat} (hk : k < zs.length) :
    ∃ ad, A = some ad ∧ ad.block < w.heap.size ∧ w.cell? (ad.add k) = some (.int .i64 (zs.getD k 0)) := by
  obtain ⟨ad, e, hb, hc⟩ := h (by simp; omega)
  exact ⟨ad, e, hb, hc k _ (by simp [hk])⟩
theorem Ints.nil (w : World) (A : Option Addr) : Ints w A [] := fun h => absurd h (by simp)
theorem Ints.take {w : World} {A : Option Addr} {zs : List Int} (h : Ints w A zs) (n : Nat) : Ints w A (zs.take n) := fun hn => by
  obtain ⟨ad, e, hb, hc⟩ := h (by simp at hn ⊢; omega)
  refine ⟨ad, e, hb, fun j u hu => hc j u ?_⟩
  rw [List.getElem?_map] at hu ⊢
  rw [List.getElem?_take] at hu
  split at hu
  · exact hu
  · simp at hu

theorem take_snoc_s (s : ByteArray) (k : Nat) (h : k < s.size) : s.data.toList.take (k + 1) = s.data.toList.take k ++ [s[k]] := by
  rw [List.take_succ_eq_append_getElem (by simpa using h)]; rfl
theorem take_snoc_z (zs : List Int) (k : Nat) (h : k < zs.length) : zs.take (k + 1) = zs.take k ++ [zs.getD k 0] := by
  rw [List.take_succ_eq_append_getElem h]; simp [h]

end Go.Proofs.Ytnaklabbadfcfaa
