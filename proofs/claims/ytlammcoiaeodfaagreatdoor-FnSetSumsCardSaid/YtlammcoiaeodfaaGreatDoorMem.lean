/- Words for memory: a slice that reads as a list of values, of whole numbers; kept over whatever leaves the old blocks alone; a row of the call's own. No program's text. -/
import Derived.WalkKit
import Derived.Lib.Hide
import Derived.Deep.QuietTactic
namespace Go.Proofs.YtlammcoiaeodfaaGreatDoor
open Go.RowKit

theorem block_of_add (a : Addr) (n : Nat) : (a.add n).block = a.block := by unfold Addr.add; split <;> rfl
theorem add_succ (a : Addr) (n : Nat) : a.add (n + 1) = ⟨(a.add n).block, (a.add n).off + 1, none⟩ := by
  unfold Addr.add
  rw [if_neg (by omega)]
  split
  · rename_i h; subst h; rfl
  · rfl
theorem add_zero' (a : Addr) : a.add 0 = a := by simp [Addr.add]
theorem add_lit (g j : Nat) : (⟨g, 0, none⟩ : Addr).add j = ⟨g, j, none⟩ := by unfold Addr.add; split <;> simp_all

/-- The address A leads to the cells xs, in a block below H. -/
def Lies (w : World) (H : Nat) (A : Option Addr) (xs : List Value) : Prop :=
  0 < xs.length → ∃ ad, A = some ad ∧ ad.block < H ∧ ∀ j u, xs[j]? = some u → w.cell? (ad.add j) = some u
theorem Lies.keep {w w' : World} {H : Nat} {A : Option Addr} {xs : List Value} (h : Lies w H A xs) (k : Below H w w') : Lies w' H A xs := fun hn => by
  obtain ⟨ad, e, hb, hc⟩ := h hn
  exact ⟨ad, e, hb, fun j u hu => (k.cell (by rw [block_of_add]; exact hb)).trans (hc j u hu)⟩
theorem Lies.more {w : World} {H H' : Nat} {A : Option Addr} {xs : List Value} (h : Lies w H A xs) (k : H ≤ H') : Lies w H' A xs := fun hn => by
  obtain ⟨ad, e, hb, hc⟩ := h hn
  exact ⟨ad, e, by omega, hc⟩
theorem Lies.of_own {w : World} {base : Nat} {e : TypeId} {size n c : Nat} {A : Option Addr} {xs : List Value} (h : w.ownsRow base e size (.slice A n c) n xs) : Lies w w.heap.size A xs := fun hn => by
  rcases h.2 with ⟨hv, hz⟩ | ⟨g, cap, cur, hv, _, hh, _⟩
  · have := h.1; subst hz; simp at this; subst this; simp at hn
  · simp only [Value.slice.injEq] at hv
    obtain ⟨rfl, _, rfl⟩ := hv
    exact ⟨_, rfl, (Array.getElem?_eq_some_iff.1 hh).1, h.cells (g := g) rfl⟩

/-- The address A leads to the whole numbers zs, in a block below H. -/
def Ints (w : World) (H : Nat) (A : Option Addr) (zs : List Int) : Prop := Lies w H A (zs.map (Value.int .i64))
theorem Ints.keep {w w' : World} {H : Nat} {A : Option Addr} {zs : List Int} (h : Ints w H A zs) (k : Below H w w') : Ints w' H A zs := Lies.keep h k
theorem Ints.more {w : World} {H H' : Nat} {A : Option Addr} {zs : List Int} (h : Ints w H A zs) (k : H ≤ H') : Ints w H' A zs := Lies.more h k
theorem Ints.at_ {w : World} {H : Nat} {A : Option Addr} {zs : List Int} (h : Ints w H A zs) {k : Nat} (hk : k < zs.length) :
    ∃ ad, A = some ad ∧ ad.block < H ∧ w.cell? (ad.add k) = some (.int .i64 (zs.getD k 0)) := by
  obtain ⟨ad, e, hb, hc⟩ := h (by simp; omega)
  exact ⟨ad, e, hb, hc k _ (by simp [hk])⟩
/-- As 'at_', and the same cell behind a new block. -/
theorem Ints.at2 {w : World} {A : Option Addr} {zs : List Int} (h : Ints w w.heap.size A zs) {k : Nat} (hk : k < zs.length) :
    ∃ ad, A = some ad ∧ w.cell? (ad.add k) = some (.int .i64 (zs.getD k 0)) ∧ ∀ o, (w.alloc o).cell? (ad.add k) = some (.int .i64 (zs.getD k 0)) := by
  obtain ⟨ad, e, hb, hc⟩ := h.at_ hk
  exact ⟨ad, e, hc, fun o => (World.cell?_alloc_lt w o _ (by rw [block_of_add]; exact hb)).trans hc⟩
theorem Ints.nil (w : World) (H : Nat) (A : Option Addr) : Ints w H A [] := fun h => absurd h (by simp)

/-- A slice of the call's own (from block B on) that holds the whole numbers zs. -/
def OwnI (w : World) (B : Nat) (A : Option Addr) (cap : Nat) (zs : List Int) : Prop := w.ownsRow B 3 1 (.slice A zs.length cap) zs.length (zs.map (Value.int .i64))
theorem OwnI.ints {w : World} {B cap : Nat} {A : Option Addr} {zs : List Int} (h : OwnI w B A cap zs) : Ints w w.heap.size A zs := Lies.of_own h
theorem grownBy_of_below {w w' : World} (h : Below w.heap.size w w') : w.grownBy w' none := ⟨h.os, h.tape, h.output, h.size, fun k hk _ => h.block k hk⟩
theorem grown_trans {a b c : World} {row : Option Nat} (h : a.grownBy b row) (k : b.grownBy c row) : a.grownBy c row :=
  ⟨k.os.trans h.os, k.tape.trans h.tape, k.output.trans h.output, Nat.le_trans h.size k.size, fun i hi hne => (k.block i (Nat.lt_of_lt_of_le hi h.size) hne).trans (h.block i hi hne)⟩
theorem OwnI.keep {w w' : World} {B cap : Nat} {A : Option Addr} {zs : List Int} (h : OwnI w B A cap zs) (k : Below w.heap.size w w') : OwnI w' B A cap zs :=
  World.ownsRow.kept h (grownBy_of_below k) (by cases A <;> simp [Value.ownBlock])
theorem own_base {w : World} {B B' : Nat} {e : TypeId} {size n : Nat} {v : Value} {xs : List Value} (h : w.ownsRow B e size v n xs) (hb : B' ≤ B) : w.ownsRow B' e size v n xs := by
  refine ⟨h.1, ?_⟩
  rcases h.2 with hn | ⟨g, cap, cur, rfl, hg, rest⟩
  · exact .inl hn
  · exact .inr ⟨g, cap, cur, rfl, by omega, rest⟩
theorem OwnI.base {w : World} {B B' cap : Nat} {A : Option Addr} {zs : List Int} (h : OwnI w B A cap zs) (hb : B' ≤ B) : OwnI w B' A cap zs := own_base h hb
theorem own_head {w : World} {B : Nat} {e : TypeId} {size n c : Nat} {A : Option Addr} {xs : List Value} (h : w.ownsRow B e size (.slice A n c) n xs) (hn : 0 < n) : ∃ g, A = some ⟨g, 0, none⟩ ∧ B ≤ g := by
  rcases h.2 with ⟨_, hz⟩ | ⟨g, cap, cur, hv, hb, _⟩
  · omega
  · simp only [Value.slice.injEq] at hv
    exact ⟨g, hv.1, hb⟩
/-- The block of a list of the call's own lies below the heap's end. -/
theorem OwnI.top {w : World} {B cap : Nat} {A : Option Addr} {zs : List Int} (h : OwnI w B A cap zs) : ∀ k, Value.ownBlock (.slice A zs.length cap) = some k → k < w.heap.size := fun k hk => (World.ownsRow.lt h k hk).2
/-- Kept over a write into another list, whose block lies below. -/
theorem OwnI.far {w w' : World} {B cap T : Nat} {A : Option Addr} {zs : List Int} {row : Option Nat} (h : OwnI w B A cap zs) (hg : w.grownBy w' row) (ht : ∀ k, row = some k → k < T) (hT : T ≤ B) : OwnI w' B A cap zs := by
  refine World.ownsRow.kept h hg ?_
  cases hv : Value.ownBlock (.slice A zs.length cap) with
  | none => exact .inl rfl
  | some k =>
    right
    intro e
    have h1 := ht k e.symm
    have h2 := (World.ownsRow.lt h k hv).1
    omega
theorem OwnI.nil (w : World) (B : Nat) : OwnI w B none 0 [] := World.ownsRow_nil w B _ 1
/-- '[]int' of no element in a new block. -/
theorem OwnI.empty (w : World) (B : Nat) (hB : B ≤ w.heap.size) : OwnI (w.alloc (.cells #[] 3)) B (some ⟨w.heap.size, 0, none⟩) 0 [] := World.ownsRow_lit w #[] 0 hB (by unfold maxLen; omega) rfl

/-- A call that leaves the world alone, inside a region that draws its order. -/
theorem quiet_left {P : Program} {f : FuncId} {args : Array Value} {w : World} {n : Nat} {v : Value}
    (h : Calls P f args (w.drewN n) fun e w' => e = .returned v ∧ w.drewN n = w') : Calls P f args (w.drewN n) fun e w'' => e = .returned v ∧ ∃ m, w'' = w.drewN m :=
  h.mono fun _ _ ⟨he, hw⟩ => ⟨he, n, hw.symm⟩
theorem take_snoc_s (s : ByteArray) (k : Nat) (h : k < s.size) : s.data.toList.take (k + 1) = s.data.toList.take k ++ [s[k]] := by
  rw [List.take_succ_eq_append_getElem (by simpa using h)]; rfl
theorem take_snoc_z (zs : List Int) (k : Nat) (h : k < zs.length) : zs.take (k + 1) = zs.take k ++ [zs.getD k 0] := by
  rw [List.take_succ_eq_append_getElem h]; simp [h]

/-- The cells of ranges, two each. -/
def rcells (rs : List (Int × Int)) : List Value := rs.flatMap fun r => [.int .i64 r.1, .int .i64 r.2]
theorem rcells_length (rs : List (Int × Int)) : (rcells rs).length = rs.length * 2 := by induction rs with
  | nil => rfl
  | cons r rs ih =>
    rw [show rcells (r :: rs) = [Value.int .i64 r.1, .int .i64 r.2] ++ rcells rs from rfl, List.length_append, ih]
    simp only [List.length_cons, List.length_nil]
    omega
theorem rcells_append (a b : List (Int × Int)) : rcells (a ++ b) = rcells a ++ rcells b := by simp [rcells]
theorem rcells_get (rs : List (Int × Int)) : ∀ k, k < rs.length → (rcells rs)[k * 2]? = some (.int .i64 (rs.getD k (0, 0)).1) ∧ (rcells rs)[k * 2 + 1]? = some (.int .i64 (rs.getD k (0, 0)).2) := by
  induction rs with
  | nil => intro k hk; simp at hk
  | cons r rs ih =>
    intro k hk
    rcases k with _ | k
    · exact ⟨rfl, rfl⟩
    · have := ih k (by simpa using hk)
      simp only [List.getD_cons_succ]
      rw [← this.1, ← this.2]
      exact ⟨by simp [rcells, Nat.add_mul], by simp [rcells, Nat.add_mul]⟩
theorem take_snoc_r (rs : List (Int × Int)) (k : Nat) (h : k < rs.length) : rs.take (k + 1) = rs.take k ++ [rs.getD k (0, 0)] := by
  rw [List.take_succ_eq_append_getElem h]; simp [h]
theorem rcells_set (as : List (Int × Int)) (ys : List Value) (x y : Int) (hy : 2 ≤ ys.length) :
    ((rcells as ++ ys).set (as.length * 2) (.int .i64 x)).set (as.length * 2 + 1) (.int .i64 y) = rcells (as ++ [(x, y)]) ++ ys.drop 2 := by
  match ys, hy with
  | a :: b :: t, _ =>
    rw [List.set_append_right _ _ (by rw [rcells_length]; omega), rcells_length, Nat.sub_self, List.set_append_right _ _ (by rw [rcells_length]; omega), rcells_length, show as.length * 2 + 1 - as.length * 2 = 1 from by omega, rcells_append]
    simp [rcells]
/-- A store of a range into a row of the call's own. -/
theorem own_rset {w : World} {base g cap n : Nat} {e : TypeId} {as : List (Int × Int)} {ys : List Value} (h : w.ownsRow base e 2 (.slice (some ⟨g, 0, none⟩) n cap) n (rcells as ++ ys)) (hk : as.length < n) (x y : Int) :
    ((w.setCell ⟨g, as.length * 2, none⟩ (.int .i64 x)).setCell ⟨g, as.length * 2 + 1, none⟩ (.int .i64 y)).ownsRow base e 2 (.slice (some ⟨g, 0, none⟩) n cap) n (rcells (as ++ [(x, y)]) ++ ys.drop 2) := by
  have hl := h.1
  rw [List.length_append, rcells_length] at hl
  have h2 := ((h.stored (as.length * 2) (.int .i64 x)).1.stored (as.length * 2 + 1) (.int .i64 y)).1
  rwa [rcells_set as ys x y (by omega)] at h2
theorem own_rcell {w : World} {base g cap n : Nat} {e : TypeId} {xs : List Value} (h : w.ownsRow base e 2 (.slice (some ⟨g, 0, none⟩) n cap) n xs) (k : Nat) (hk : k < n) :
    (∃ u, w.cell? ⟨g, k * 2, none⟩ = some u) ∧ (∃ u, w.cell? ⟨g, k * 2 + 1, none⟩ = some u) := by
  have hl := h.1
  exact ⟨⟨_, (h.cellAt (k * 2) (by omega)).trans (List.getElem?_eq_getElem (by omega))⟩, ⟨_, (h.cellAt (k * 2 + 1) (by omega)).trans (List.getElem?_eq_getElem (by omega))⟩⟩
/-- The address A leads to the ranges rs, in a block below H. -/
def Rngs (w : World) (H : Nat) (A : Option Addr) (rs : List (Int × Int)) : Prop := Lies w H A (rcells rs)
theorem Rngs.keep {w w' : World} {H : Nat} {A : Option Addr} {rs : List (Int × Int)} (h : Rngs w H A rs) (k : Below H w w') : Rngs w' H A rs := Lies.keep h k
theorem Rngs.more {w : World} {H H' : Nat} {A : Option Addr} {rs : List (Int × Int)} (h : Rngs w H A rs) (k : H ≤ H') : Rngs w H' A rs := Lies.more h k
theorem Rngs.nil (w : World) (H : Nat) (A : Option Addr) : Rngs w H A [] := fun h => absurd h (by simp [rcells])
theorem Rngs.at_ {w : World} {H : Nat} {A : Option Addr} {rs : List (Int × Int)} (h : Rngs w H A rs) {k : Nat} (hk : k < rs.length) :
    ∃ ad, A = some ad ∧ ad.block < H ∧ w.cell? (ad.add (k * 2)) = some (.int .i64 (rs.getD k (0, 0)).1) ∧ w.cell? ⟨(ad.add (k * 2)).block, (ad.add (k * 2)).off + 1, none⟩ = some (.int .i64 (rs.getD k (0, 0)).2) := by
  obtain ⟨ad, e, hb, hc⟩ := h (by rw [rcells_length]; omega)
  have hg := rcells_get rs k hk
  refine ⟨ad, e, hb, hc _ _ hg.1, ?_⟩
  rw [← add_succ]
  exact hc _ _ hg.2
theorem new1_cell (w : World) (x : Value) (t : TypeId) : (w.alloc (.cells #[x] t)).cell? ⟨w.heap.size, 0, none⟩ = some x := by simp [go_sem]
theorem OwnI.push {w : World} {B cap : Nat} {A : Option Addr} {zs : List Int} (h : OwnI w B A cap zs) (o : Obj) : OwnI (w.alloc o) B A cap zs := World.ownsRow.alloc h o
theorem bcell {W w1 : World} (hb : Below W.heap.size W w1) : (∀ b o, b < W.heap.size → w1.cell? ⟨b, o, none⟩ = W.cell? ⟨b, o, none⟩) ∧ (∀ b o, b < W.heap.size → w1.frozen? ⟨b, o, none⟩ = W.frozen? ⟨b, o, none⟩) :=
  ⟨fun b o h => hb.cell (p := ⟨b, o, none⟩) h, fun b o h => hb.frozen (p := ⟨b, o, none⟩) h⟩
/-- k, k + 1, .. : n numbers. -/
def seqI (k : Int) (n : Nat) : List Int := (List.range n).map fun (i : Nat) => k + (i : Int)
theorem seqI_length (k : Int) (n : Nat) : (seqI k n).length = n := by simp [seqI]
theorem seqI_getD (k : Int) (n i : Nat) (h : i < n) : (seqI k n).getD i 0 = k + i := by simp [seqI, h]

end Go.Proofs.YtlammcoiaeodfaaGreatDoor
