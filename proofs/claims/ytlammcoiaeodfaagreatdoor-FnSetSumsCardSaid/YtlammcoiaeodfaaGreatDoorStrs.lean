/- Lists of texts: what the laws do with them: copied, compared, written, read again; appended to. -/
import Derived.Test.YtlammcoiaeodfaaGreatDoorNum
import Derived.Test.YtlammcoiaeodfaaGreatDoorLists
import Derived.Lib.SlBytesRow
import Derived.StillTailTactics
import Derived.Deep.RegionHeld3
namespace Go.Proofs.YtlammcoiaeodfaaGreatDoor
open Go.RowKit
open Go.Lib (itoa decDigits)
set_option linter.unusedVariables false
set_option maxRecDepth 100000

/-- The cells of texts. -/
def scells (xs : List (List UInt8)) : List Value := xs.map fun x => .string (str x)
theorem scells_length (xs : List (List UInt8)) : (scells xs).length = xs.length := by simp [scells]
theorem scells_append (a b : List (List UInt8)) : scells (a ++ b) = scells a ++ scells b := by simp [scells]
theorem scells_get (xs : List (List UInt8)) (k : Nat) (h : k < xs.length) : (scells xs)[k]? = some (.string (str (xs.getD k []))) := by simp [scells, h]
theorem take_snoc_l (xs : List (List UInt8)) (k : Nat) (h : k < xs.length) : xs.take (k + 1) = xs.take k ++ [xs.getD k []] := by
  rw [List.take_succ_eq_append_getElem h]; simp [h]
/-- The address A leads to the texts xs, in a block below H. -/
def Strs (w : World) (H : Nat) (A : Option Addr) (xs : List (List UInt8)) : Prop := Lies w H A (scells xs)
theorem Strs.keep {w w' : World} {H : Nat} {A : Option Addr} {xs : List (List UInt8)} (h : Strs w H A xs) (k : Below H w w') : Strs w' H A xs := Lies.keep h k
theorem Strs.more {w : World} {H H' : Nat} {A : Option Addr} {xs : List (List UInt8)} (h : Strs w H A xs) (k : H ≤ H') : Strs w H' A xs := Lies.more h k
theorem Strs.nil (w : World) (H : Nat) (A : Option Addr) : Strs w H A [] := fun h => absurd h (by simp [scells])
theorem Strs.at_ {w : World} {H : Nat} {A : Option Addr} {xs : List (List UInt8)} (h : Strs w H A xs) {k : Nat} (hk : k < xs.length) :
    ∃ ad, A = some ad ∧ ad.block < H ∧ w.cell? (ad.add k) = some (.string (str (xs.getD k []))) := by
  obtain ⟨ad, e, hb, hc⟩ := h (by rw [scells_length]; omega)
  exact ⟨ad, e, hb, hc k _ (scells_get xs k hk)⟩
/-- A slice of the call's own (from block B on) that holds the texts xs. -/
def OwnS (w : World) (B : Nat) (A : Option Addr) (cap : Nat) (xs : List (List UInt8)) : Prop := w.ownsRow B 9 1 (.slice A xs.length cap) xs.length (scells xs)
theorem OwnS.strs {w : World} {B cap : Nat} {A : Option Addr} {xs : List (List UInt8)} (h : OwnS w B A cap xs) : Strs w w.heap.size A xs := Lies.of_own h
theorem OwnS.keep {w w' : World} {B cap : Nat} {A : Option Addr} {xs : List (List UInt8)} (h : OwnS w B A cap xs) (k : Below w.heap.size w w') : OwnS w' B A cap xs :=
  World.ownsRow.kept h (grownBy_of_below k) (by cases A <;> simp [Value.ownBlock])
theorem OwnS.base {w : World} {B B' cap : Nat} {A : Option Addr} {xs : List (List UInt8)} (h : OwnS w B A cap xs) (hb : B' ≤ B) : OwnS w B' A cap xs := own_base h hb
theorem OwnS.nil (w : World) (B : Nat) : OwnS w B none 0 [] := World.ownsRow_nil w B _ 1
theorem OwnS.push {w : World} {B cap : Nat} {A : Option Addr} {xs : List (List UInt8)} (h : OwnS w B A cap xs) (o : Obj) : OwnS (w.alloc o) B A cap xs := World.ownsRow.alloc h o
theorem OwnS.top {w : World} {B cap : Nat} {A : Option Addr} {xs : List (List UInt8)} (h : OwnS w B A cap xs) : ∀ k, Value.ownBlock (.slice A xs.length cap) = some k → k < w.heap.size := fun k hk => (World.ownsRow.lt h k hk).2
theorem OwnS.far {w w' : World} {B cap T : Nat} {A : Option Addr} {xs : List (List UInt8)} {row : Option Nat} (h : OwnS w B A cap xs) (hg : w.grownBy w' row) (ht : ∀ k, row = some k → k < T) (hT : T ≤ B) : OwnS w' B A cap xs := by
  refine World.ownsRow.kept h hg ?_
  cases hv : Value.ownBlock (.slice A xs.length cap) with
  | none => exact .inl rfl
  | some k =>
    right
    intro e
    have h1 := ht k e.symm
    have h2 := (World.ownsRow.lt h k hv).1
    omega
/-- '[]string' of no element in a new block. -/
theorem OwnS.empty (w : World) (B : Nat) (hB : B ≤ w.heap.size) : OwnS (w.alloc (.cells #[] 9)) B (some ⟨w.heap.size, 0, none⟩) 0 [] := World.ownsRow_lit w #[] 0 hB (by unfold maxLen; omega) rfl
/-- A new block of texts. -/
theorem OwnS.lit (w : World) (B : Nat) (xs : List (List UInt8)) (hB : B ≤ w.heap.size) (hl : xs.length ≤ 100000000) : OwnS (w.alloc (.cells (scells xs).toArray 9)) B (some ⟨w.heap.size, 0, none⟩) xs.length xs := by
  have := World.ownsRow_lit (e := 9) (size := 1) w (scells xs).toArray xs.length hB (by unfold maxLen; omega) (by simp [scells])
  unfold OwnS
  simpa [scells_length] using this
theorem str_info : (Tryz.prog.info? 9).map (fun i => (i.zero, i.size, i.bytes)) = some (some (.string ByteArray.empty), 1, 16) := by kernel_rfl
/-- 'append(out, s)' onto a list of the call's own. -/
theorem wpList_appS (w : World) {ops : Array Oper} {rest : List Oper} {o : Oper} {a : Act} {Q : Exit → Act → World → Prop} (hg : o.guard = none) (s x : Operand)
    (ho : o.op = .call { callee := .builtin .append, args := #[s, x], argTypes := #[52, 52] }) (B : Nat) (A : Option Addr) (cap : Nat) (xs : List (List UInt8))
    (hs : a.eval s = .slice A xs.length cap) (hown : OwnS w B A cap xs) (z : List UInt8) (ad : Addr) (hx : a.eval x = .slice (some ad) 1 1) (hz : w.cell? (ad.add 0) = some (.string (str z)))
    (hl : xs.length ≤ 100000000) (hB : B ≤ w.heap.size)
    (h : ∀ A' cap' w', OwnS w' B A' cap' (xs ++ [z]) → Below B w w' → wpList Tryz.prog ops Q rest (a.put o.dst (.slice A' (xs.length + 1) cap')) w') : wpList Tryz.prog ops Q (o :: rest) a w := by
  obtain ⟨i0, hi, hz0, hz1, hz2⟩ := info_parts str_info
  refine wpList_append_own w hg s x 52 ho B 9 i0 (.string ByteArray.empty) 1 16 Tryz.underlying52 hi hz0 hz1 hz2 rfl (by omega) _ xs.length (scells xs) hs hown ad 1 1 [.string (str z)] hx rfl ?_ ?_ (by unfold maxLen; omega) (by omega) hB ?_
  · intro j u hu
    match j, hu with
    | 0, hu => simp at hu; subst hu; exact hz
    | j + 1, hu => simp at hu
  · intro u hu
    simp at hu
    subst hu
    rfl
  · intro v' w' hown' hgrow _
    have hb : Below B w w' := (Below.refl _ _).grown hgrow hB (fun k hk => (World.ownsRow.lt hown k hk).1)
    rcases hown'.2 with ⟨_, h0⟩ | ⟨g, c, cur, rfl, _⟩
    · omega
    · refine h _ _ _ ?_ hb
      have e : scells xs ++ [Value.string (str z)] = scells (xs ++ [z]) := by simp [scells]
      rw [e] at hown'
      unfold OwnS
      rw [List.length_append]
      exact hown'
theorem tos_step (xs : List (List UInt8)) (k : Nat) (hk : k < xs.length) :
    (scells (xs.take k) ++ List.replicate (xs.length - k) (Value.string ByteArray.empty)).set k (.string (str (xs.getD k []))) =
      scells (xs.take (k + 1)) ++ List.replicate (xs.length - (k + 1)) (Value.string ByteArray.empty) := by
  rw [take_snoc_l xs k hk, scells_append]
  have hl : (scells (xs.take k)).length = k := by simp [scells]; omega
  rw [List.set_append_right _ _ (by omega), hl, Nat.sub_self]
  obtain ⟨m, hm⟩ : ∃ m, xs.length - k = m + 1 := ⟨xs.length - k - 1, by omega⟩
  rw [hm, show xs.length - (k + 1) = m from by omega, List.replicate_succ]
  simp [scells]
/-- The mark of k: the letter m and k's digits. -/
def mtx (k : Nat) : List UInt8 := 109 :: decDigits k
/-- The marks from k on, n of them. -/
def seqM (k n : Nat) : List (List UInt8) := (List.range n).map fun i => mtx (k + i)
theorem seqM_length (k n : Nat) : (seqM k n).length = n := by simp [seqM]
theorem seqM_getD (k n i : Nat) (h : i < n) : (seqM k n).getD i [] = mtx (k + i) := by simp [seqM, h]
theorem seqM_snoc (k n : Nat) : seqM k (n + 1) = seqM k n ++ [mtx (k + n)] := by simp [seqM, List.range_succ]
theorem conv_byte (w : World) (d : Nat) (h : d < 10) : (convert 22 9 (.slice (some ⟨w.heap.size, 0, none⟩) 1 1)).run Tryz.prog (w.alloc (.cells #[.int .u8 ((48 : Int) + (d : Int))] 5)) = .ok (.string (str (decDigits d))) (w.alloc (.cells #[.int .u8 ((48 : Int) + (d : Int))] 5)) := by
  have e := run_convert_bytes_arg (P := Tryz.prog) (w.alloc (.cells #[.int .u8 ((48 : Int) + (d : Int))] 5)) 22 5 Tryz.underlying22 Tryz.underlying5 w.heap.size 0 1 1 [(48 : Int) + (d : Int)] rfl (fun i hi => by
    obtain rfl : i = 0 := by omega
    simp [go_sem]) 9 Tryz.underlying9
  rw [e]
  congr 2
  rw [decDigits_small h]
  unfold strOfNums str
  simp only [List.map_cons, List.map_nil]
  rw [show ((48 : Int) + (d : Int)).toNat = 48 + d from by omega]
def MkT (k j : Nat) (o : List UInt8) : Prop := if j = 0 then o = decDigits k else decDigits j ++ o = decDigits k
theorem MkT.step {k j : Nat} {o : List UInt8} (h : MkT k j o) (hj : 0 < j) : MkT k (j / 10) (decDigits (j % 10) ++ o) := by
  unfold MkT at h ⊢
  rw [if_neg (by omega)] at h
  by_cases c : j < 10
  · rw [if_pos (by omega), show j % 10 = j from by omega]
    exact h
  · rw [if_neg (by omega), ← h, decDigits_big c, decDigits_small (show j % 10 < 10 from by omega)]
    simp
theorem MkT.len {k j : Nat} {o : List UInt8} (h : MkT k j o) (hk : k ≤ 1000000000) : o.length ≤ 10 := by
  have := decDigits_le k hk
  unfold MkT at h
  split at h
  · rw [h]; exact this
  · rw [← h, List.length_append] at this
    omega
end Go.Proofs.YtlammcoiaeodfaaGreatDoor
