/- The library's functions that the program calls, in this proof's words: what each returns, what it needs of the world. -/
import Derived.Test.YtnbgjkblhbpjlaaShelf
import Derived.Test.YtnbgjkblhbpjlaaStrs
import Derived.Test.YtnbgjkblhbpjlaaSplitL
import Derived.Test.YtnbgjkblhbpjlaaDec
import Derived.WalkSmall
import Derived.Shelf.Vars
import Derived.Lib.SmallJoins
import Derived.Lib.AppendIntMem
import Derived.Lib.AtoiErrMem
import Derived.Lib.LaidTab
import Derived.Lib.LaidU8
namespace Go.Proofs.Ytnbgjkblhbpjlaa
open Go.RowKit
open Go.Lib (itoa decDigits)
set_option linter.unusedVariables false
set_option maxRecDepth 100000

/-- The library's bound on short searches is some number. -/
def MaxW (w : World) (B : Nat) : Prop := (∃ m, w.cell? ⟨0, 0, none⟩ = some (.int .i64 m)) ∧ 0 < B
theorem MaxW.keep {w w' : World} {B B' : Nat} (h : MaxW w B) (k : Below B' w w') (hB : B ≤ B') : MaxW w' B := by
  obtain ⟨⟨m, hm⟩, hb⟩ := h
  exact ⟨⟨m, (k.cell (p := ⟨0, 0, none⟩) (by show 0 < B'; omega)).trans hm⟩, hb⟩
theorem max_of_shape {w : World} (h : w.ShapedOpen Try.prog) : ∃ m, w.cell? ⟨0, 0, none⟩ = some (.int .i64 m) :=
  Go.Proofs.cell_of_shapedOpen_int (g := 0) (t := 3) (zero := #[.int .i64 0]) (k := .i64) h (of_decide_eq_true (by kernel_rfl)) (by kernel_rfl) rfl (by kernel_rfl) (by kernel_rfl) Try.underlying3
theorem MaxW.of_shape {w : World} {B : Nat} (h : w.ShapedOpen Try.prog) (hB : w.heap.size ≤ B) : MaxW w B := by
  obtain ⟨m, hm⟩ := max_of_shape h
  have := World.block_lt_of_cell? _ _ hm
  exact ⟨⟨m, hm⟩, by simp at this; omega⟩
/-- A text has the byte b. -/
def hasB (b : UInt8) (l : List UInt8) : Bool := decide (b ∈ l)
theorem hasB_t {b : UInt8} {l : List UInt8} (h : b ∈ l) : hasB b l = true := decide_eq_true h
theorem hasB_f {b : UInt8} {l : List UInt8} (h : b ∉ l) : hasB b l = false := decide_eq_false h
theorem hasB_iff {b : UInt8} {l : List UInt8} : hasB b l = true ↔ b ∈ l := decide_eq_true_iff
theorem c_contains {B : Nat} (s : ByteArray) (b : UInt8) (w : World) (h : MaxW w B) (hs : s.size ≤ 100000000) :
    Calls Try.prog 12 #[.string s, .string (str [b])] w fun e w' => e = .returned (.bool (hasB b s.data.toList)) ∧ w = w' := by
  obtain ⟨⟨m, hm⟩, _⟩ := h
  refine (Try.strings_Contains s (str [b]) m w (by omega) hm).mono fun e w' ⟨he, hw⟩ => ⟨?_, hw.symm⟩
  rw [he, list_str]
  refine ret_b ?_
  rw [Bool.eq_iff_iff, contains_iff, hasB_iff]
theorem c_join {B c : Nat} {A : Option Addr} (xs : List (List UInt8)) (b : UInt8) (w : World) (h : OwnS w B A c xs) (hl : (jn b xs).length ≤ 1000000000) (hn : xs.length ≤ 100000000) :
    Calls Try.prog 13 #[.slice A xs.length c, .string (str [b])] w fun e w' => e = .returned (.string (str (jn b xs))) ∧ Below w.heap.size w w' := by
  by_cases h0 : xs = []
  · subst h0
    exact (Try.strings_Join_none A c (str [b]) w).mono fun e w' ⟨he, hw⟩ => ⟨he, by rw [hw]; exact Below.refl _ _⟩
  · obtain ⟨ad, e0, hb, hcell⟩ := h.strs (by rw [scells_length]; exact List.length_pos_iff.2 h0)
    obtain ⟨g, rfl, _⟩ := own_head h (List.length_pos_iff.2 h0)
    injection e0 with e0
    subst e0
    have hcap : xs.length ≤ c := by
      rcases h.2 with ⟨hv, _⟩ | ⟨g', cap, cur, hv, _, _, hcap, _⟩
      · cases hv
      · simp only [Value.slice.injEq] at hv
        omega
    have e1 : (xs.map str).map (·.data.toList) = xs := by
      rw [List.map_map]
      conv => rhs; rw [← List.map_id xs]
      exact List.map_congr_left fun x _ => rfl
    have hJ := Try.strings_Join g 0 c (xs.map str) (str [b]) w (fun j x hx => by
      have h1 := hcell j (.string x) (by
        rw [List.getElem?_map] at hx
        obtain ⟨y, hy, rfl⟩ := Option.map_eq_some_iff.1 hx
        unfold scells
        rw [List.getElem?_map, hy]
        rfl)
      rw [add_lit] at h1
      rw [Nat.zero_add]
      exact h1) hb (by rw [List.length_map]; omega) (by rw [List.length_map]; exact hcap) (by rw [e1, list_str, join_jn]; omega)
    rw [e1, list_str, join_jn, List.length_map] at hJ
    exact hJ
end Go.Proofs.Ytnbgjkblhbpjlaa
