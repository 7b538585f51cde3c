/- The octets of a packet: by the program and by the reference. -/
import Derived.Test.YtpmfaiocmgkmpaaGreatDoorPkF
import Derived.Test.YtpmfaiocmgkmpaaGreatDoorOct
import Derived.Test.YtpmfaiocmgkmpaaGreatDoorTwo
import Derived.Test.YtpmfaiocmgkmpaaGreatDoorBits
namespace Go.Proofs.YtpmfaiocmgkmpaaGreatDoor
open Go.RowKit
set_option linter.unusedVariables false
set_option maxRecDepth 100000

def octH (k n t l : Int) (m : Nat) : List Int := [k, n / 256, n % 256, t / 256, t % 256, l / 256, l % 256, (m : Int)]
def octD (d : List UInt8) : List Int := d.map fun c => (c.toNat : Int)
def octB (k n t l : Int) (d : List UInt8) : List Int := octH k n t l d.length ++ octD d
def octL (k n t l : Int) (d : List UInt8) : List Int := octB k n t l d ++ [chkO (octB k n t l d) / 256, chkO (octB k n t l d) % 256]
theorem octD_length (d : List UInt8) : (octD d).length = d.length := by simp [octD]
theorem octB_length (k n t l : Int) (d : List UInt8) : (octB k n t l d).length = 8 + d.length := by simp [octB, octH, octD_length]; omega
theorem octD_snoc {d : List UInt8} {j : Nat} {c : UInt8} (h : d[j]? = some c) : octD (d.take (j + 1)) = octD (d.take j) ++ [(c.toNat : Int)] := by
  unfold octD
  rw [List.take_add_one, h]
  simp
theorem areO_of {zs : List Int} (h : ∀ z ∈ zs, 0 ≤ z ∧ z ≤ 255) : AreO zs := fun i hi => by
  rw [show zs.getD i 0 = zs[i] from by simp [hi]]
  exact h _ (List.getElem_mem _)
theorem octB_areO {k n t l : Int} {d : List UInt8} (h : goodP k n t l d = true) : AreO (octB k n t l d) ∧ (octB k n t l d).length ≤ 16 := by
  obtain ⟨hk, hn, ht, hl, _, hd⟩ := goodP_t h
  refine ⟨areO_of fun z hz => ?_, by rw [octB_length]; omega⟩
  rcases List.mem_append.1 hz with hz | hz
  · simp only [octH, List.mem_cons, List.mem_nil_iff, or_false] at hz
    rcases hz with rfl | rfl | rfl | rfl | rfl | rfl | rfl | rfl <;> omega
  · obtain ⟨c, _, rfl⟩ := List.mem_map.1 hz
    have := c.toNat_lt
    omega
theorem chkO_lt (zs : List Int) : 0 ≤ chkO zs ∧ chkO zs < 65521 := by unfold chkO; omega
theorem ints_new (w : World) (zs : List Int) : Ints (w.alloc (.cells (zs.map (Value.int .i64)).toArray 3)) (w.heap.size + 1) (some ⟨w.heap.size, 0, none⟩) zs := fun hn => by
  refine ⟨_, rfl, Nat.lt_succ_self _, fun j u hu => ?_⟩
  rw [add_lit]
  simp at hu
  simp [go_sem]
  exact hu
theorem OwnI.lit (w : World) (B : Nat) (zs : List Int) (hB : B ≤ w.heap.size) (hl : zs.length ≤ 100000000) : OwnI (w.alloc (.cells (zs.map (Value.int .i64)).toArray 3)) B (some ⟨w.heap.size, 0, none⟩) zs.length zs := by
  have := World.ownsRow_lit (e := 3) (size := 1) w (zs.map (Value.int .i64)).toArray zs.length hB (by unfold maxLen; omega) (by simp)
  unfold OwnI
  simpa using this
theorem PkAt.keepB {k n t l : Int} {d : List UInt8} {b B : Nat} {w w1 : World} (h : PkAt k n t l d b w) (hb : b < B) (b1 : Below B w w1) : PkAt k n t l d b w1 := by
  obtain ⟨hs, h0, h1, h2, h3, h4⟩ := h
  exact ⟨Nat.lt_of_lt_of_le hs b1.size, (b1.cell (p := ⟨b, 0, none⟩) hb).trans h0, (b1.cell (p := ⟨b, 1, none⟩) hb).trans h1, (b1.cell (p := ⟨b, 2, none⟩) hb).trans h2, (b1.cell (p := ⟨b, 3, none⟩) hb).trans h3, (b1.cell (p := ⟨b, 4, none⟩) hb).trans h4⟩
/-- The list of octets under way, beside the packet's box. -/
def OctW (k n t l : Int) (d : List UInt8) (w : World) (A : Option Addr) (cap : Nat) (zs : List Int) (wr : World) : Prop :=
  OwnI wr (w.heap.size + 1) A cap zs ∧ PkAt k n t l d w.heap.size wr ∧ Below w.heap.size w wr
/-- Behind an append onto it. -/
theorem OctW.next {k n t l : Int} {d : List UInt8} {w wr w2 : World} {A A2 : Option Addr} {cap c2 : Nat} {zs zs2 : List Int} (h : OctW k n t l d w A cap zs wr) (o : Obj) (o2 : OwnI w2 (w.heap.size + 1) A2 c2 zs2) (b2 : Below (w.heap.size + 1) (wr.alloc o) w2) : OctW k n t l d w A2 c2 zs2 w2 := by
  have hs := h.2.1.1
  refine ⟨o2, (h.2.1.keep ((Below.refl wr.heap.size wr).alloc (Nat.le_refl _) o)).keepB (Nat.lt_succ_self _) b2, ?_⟩
  exact (h.2.2.alloc (Nat.le_of_lt hs) o).trans (b2.mono (by omega))
theorem octW_start (k n t l : Int) (d : List UInt8) (w : World) (zs : List Int) (hl : zs.length ≤ 1000) :
    OctW k n t l d w (some ⟨w.heap.size + 1, 0, none⟩) zs.length zs ((w.alloc (.cells #[.int .i64 k, .int .i64 n, .int .i64 t, .int .i64 l, .string (str d)] 25)).alloc (.cells (zs.map (Value.int .i64)).toArray 3)) := by
  have h1 := pkAt_new k n t l d w 25
  have h2 := OwnI.lit (w.alloc (.cells #[.int .i64 k, .int .i64 n, .int .i64 t, .int .i64 l, .string (str d)] 25)) (w.heap.size + 1) zs (by simp) (by omega)
  refine ⟨by simpa using h2, h1.keep ((Below.refl _ _).alloc (Nat.le_refl _) _), ((Below.refl _ _).alloc (Nat.le_refl _) _).alloc (by simp) _⟩
def octJ (k n t l : Int) (d : List UInt8) (j : Nat) : List Int := octH k n t l d.length ++ octD (d.take j)
theorem octJ_length (k n t l : Int) (d : List UInt8) (j : Nat) (h : j ≤ d.length) : (octJ k n t l d j).length = 8 + j := by simp [octJ, octH, octD]; omega
theorem octJ_snoc (k n t l : Int) {d : List UInt8} {j : Nat} {c : UInt8} (h : d[j]? = some c) : octJ k n t l d (j + 1) = octJ k n t l d j ++ [(c.toNat : Int)] := by
  unfold octJ
  rw [octD_snoc h, List.append_assoc]
theorem octJ_all (k n t l : Int) (d : List UInt8) : octJ k n t l d d.length = octB k n t l d := by simp [octJ, octB]
theorem octJ_0 (k n t l : Int) (d : List UInt8) : octJ k n t l d 0 = octH k n t l d.length := by simp [octJ, octD]
theorem octL_length (k n t l : Int) (d : List UInt8) : (octL k n t l d).length = 8 + d.length + 2 := by unfold octL; rw [List.length_append, octB_length]; rfl
theorem octW_start0 (k n t l : Int) (d : List UInt8) (w : World) :
    OctW k n t l d w (some ⟨w.heap.size + 1, 0, none⟩) 8 (octJ k n t l d 0) ((w.alloc (.cells #[.int .i64 k, .int .i64 n, .int .i64 t, .int .i64 l, .string (str d)] 25)).alloc (.cells #[.int .i64 k, .int .i64 (n / 256), .int .i64 (n % 256), .int .i64 (t / 256), .int .i64 (t % 256), .int .i64 (l / 256), .int .i64 (l % 256), .int .i64 d.length] 3)) := by
  rw [show octJ k n t l d 0 = octH k n t l d.length from by simp [octJ, octD]]
  exact octW_start k n t l d w (octH k n t l d.length) (by simp [octH])
/-- The kind and the first j of the three serials, each as two octets. -/
def hdI (k n t l : Int) (j : Nat) : List Int := k :: [n / 256, n % 256, t / 256, t % 256, l / 256, l % 256].take (2 * j)
def hdX (n t l : Int) (j : Nat) : Int := [n, t, l].getD j 0
theorem hdI_length (k n t l : Int) {j : Nat} (h : j ≤ 3) : (hdI k n t l j).length = 1 + 2 * j := by simp [hdI]; omega
theorem hdI_step (k n t l : Int) {j : Nat} (h : j < 3) : hdI k n t l (j + 1) = hdI k n t l j ++ [hdX n t l j / 256, hdX n t l j % 256] := by
  match j, h with
  | 0, _ => rfl
  | 1, _ => rfl
  | 2, _ => rfl
theorem hdI_all (k n t l : Int) (m : Nat) : hdI k n t l 3 ++ [(m : Int)] = octH k n t l m := rfl
theorem hdX_rng {n t l : Int} {j : Nat} (h : j < 3) (hn : 0 ≤ n ∧ n ≤ 65535) (ht : 0 ≤ t ∧ t ≤ 65535) (hl : 0 ≤ l ∧ l ≤ 65535) : 0 ≤ hdX n t l j ∧ hdX n t l j ≤ 65535 := by
  match j, h with
  | 0, _ => exact hn
  | 1, _ => exact ht
  | 2, _ => exact hl
/-- The list of octets and the list of the three serials under way, beside the packet's box. -/
def OctT (k n t l : Int) (d : List UInt8) (w : World) (A : Option Addr) (cap : Nat) (zs : List Int) (wr : World) : Prop :=
  Two wr (w.heap.size + 1) A cap zs (some ⟨w.heap.size + 1 + 1, 0, none⟩) 3 [n, t, l] ∧ PkAt k n t l d w.heap.size wr ∧ Below w.heap.size w wr
theorem OctT.drop {k n t l : Int} {d : List UInt8} {w wr : World} {A : Option Addr} {cap : Nat} {zs : List Int} (h : OctT k n t l d w A cap zs wr) : OctW k n t l d w A cap zs wr := ⟨h.1.1, h.2⟩
theorem OctT.next {k n t l : Int} {d : List UInt8} {w wr w2 : World} {A A2 : Option Addr} {cap c2 : Nat} {zs zs2 : List Int} (h : OctT k n t l d w A cap zs wr) (o : Obj) (o2 : OwnI w2 (w.heap.size + 1) A2 c2 zs2) (g : (wr.alloc o).grownBy w2 (ownB A)) (hat : ownB A2 = ownB A ∨ ownB A2 = some (wr.alloc o).heap.size) : OctT k n t l d w A2 c2 zs2 w2 := by
  have hs := h.2.1.1
  have b2 : Below (w.heap.size + 1) (wr.alloc o) w2 := grown_own (Below.refl _ _) g (by simp; omega) h.1.1.low
  have e := h.drop.next o o2 b2
  exact ⟨(h.1.push o).fst o2 g hat, e.2⟩
theorem octT_start (k n t l : Int) (d : List UInt8) (w : World) :
    OctT k n t l d w (some ⟨w.heap.size + 1, 0, none⟩) 1 (hdI k n t l 0) (((w.alloc (.cells #[.int .i64 k, .int .i64 n, .int .i64 t, .int .i64 l, .string (str d)] 25)).alloc (.cells #[.int .i64 k] 3)).alloc (.cells #[.int .i64 n, .int .i64 t, .int .i64 l] 3)) := by
  obtain ⟨h1, h2, h3⟩ := octW_start k n t l d w [k] (by simp)
  have h4 := OwnI.lit ((w.alloc (.cells #[.int .i64 k, .int .i64 n, .int .i64 t, .int .i64 l, .string (str d)] 25)).alloc (.cells #[.int .i64 k] 3)) (w.heap.size + 1) [n, t, l] (by simp) (by simp)
  refine ⟨⟨h1.push _, by simpa using h4, fun j e1 e2 => ?_⟩, h2.keep ((Below.refl _ _).alloc (Nat.le_refl _) _), h3.alloc (by simp; omega) _⟩
  simp [ownB] at e1 e2
  omega
/-- 'append(out, ys...)' onto a list of the call's own, with what it leaves alone. -/
theorem wpList_appIs2 (w : World) {ops : Array Oper} {rest : List Oper} {o : Oper} {a : Act} {Q : Exit → Act → World → Prop} (hg : o.guard = none) (s x : Operand)
    (ho : o.op = .call { callee := .builtin .append, args := #[s, x], argTypes := #[35, 35] }) (B : Nat) (A : Option Addr) (cap : Nat) (zs : List Int)
    (hs : a.eval s = .slice A zs.length cap) (hown : OwnI w B A cap zs) {H : Nat} (ys : List Int) (ad : Addr) (c : Nat) (hx : a.eval x = .slice (some ad) ys.length c) (hy : Ints w H (some ad) ys) (hys : 0 < ys.length)
    (hl : zs.length + ys.length ≤ 100000000) (hB : B ≤ w.heap.size)
    (h : ∀ A' cap' w', OwnI w' B A' cap' (zs ++ ys) → w.grownBy w' (ownB A) → (ownB A' = ownB A ∨ ownB A' = some w.heap.size) → wpList Tryz.prog ops Q rest (a.put o.dst (.slice A' (zs.length + ys.length) cap')) w') : wpList Tryz.prog ops Q (o :: rest) a w := by
  obtain ⟨i0, hi, hz0, hz1, hz2⟩ := info_parts int_info
  refine wpList_append_own_at w hg s x 35 ho B 3 i0 (.int .i64 0) 1 8 Tryz.underlying35 hi hz0 hz1 hz2 rfl (by omega) _ zs.length (zs.map (Value.int .i64)) hs hown ad ys.length c (ys.map (Value.int .i64)) hx (by simp) ?_ ?_ (by unfold maxLen; omega) (by omega) hB ?_
  · intro j u hu
    obtain ⟨ad', e, _, hc⟩ := hy (by have := (List.getElem?_eq_some_iff.1 hu).1; omega)
    injection e with e
    subst e
    exact hc j u hu
  · intro u hu
    obtain ⟨z, _, rfl⟩ := List.mem_map.1 hu
    rfl
  · intro v' w' hown' hgrow _ hat
    rw [ownB_eq] at hgrow hat
    rcases hown'.2 with ⟨_, h0⟩ | ⟨g, c', cur, rfl, _⟩
    · omega
    · rw [ownB_eq] at hat
      refine h _ _ _ ?_ hgrow hat
      have e : zs.map (Value.int .i64) ++ ys.map (Value.int .i64) = (zs ++ ys).map (Value.int .i64) := by simp
      rw [e] at hown'
      unfold OwnI
      rw [List.length_append]
      exact hown'
def octR (k n t l : Int) (d : List UInt8) : List Int := if goodP k n t l d then octL k n t l d else []
theorem octR_len (k n t l : Int) (d : List UInt8) : (octR k n t l d).length ≤ 18 := by
  unfold octR
  split
  · next h => have := (goodP_t h).2.2.2.2.2; rw [octL_length]; omega
  · simp
end Go.Proofs.YtpmfaiocmgkmpaaGreatDoor
