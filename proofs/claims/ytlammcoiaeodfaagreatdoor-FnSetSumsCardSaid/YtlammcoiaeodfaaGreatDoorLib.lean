/- The library's functions that the program calls, in this proof's words: what each returns, what it needs of the world. -/
import Derived.Test.YtlammcoiaeodfaaGreatDoorShelf
import Derived.Test.YtlammcoiaeodfaaGreatDoorStrs
import Derived.Test.YtlammcoiaeodfaaGreatDoorSplitL
import Derived.Test.YtlammcoiaeodfaaGreatDoorDec
import Derived.WalkSmall
import Derived.Shelf.Vars
import Derived.Lib.SmallJoins
import Derived.Lib.AppendIntMem
import Derived.Lib.AtoiErrMem
import Derived.Lib.LaidTab
import Derived.Lib.LaidU8
namespace Go.Proofs.YtlammcoiaeodfaaGreatDoor
open Go.RowKit
open Go.Lib (itoa decDigits)
set_option linter.unusedVariables false
set_option maxRecDepth 100000

/-- The table of the powers of ten, in a world whose blocks below B are kept. -/
def PowW (w : World) (B : Nat) : Prop := Lib.TabIs Tryz.prog w "internal/strconv.uint64pow10" .u64 Lib.pow10Tab ∧ 1 < B
theorem PowW.keep {w w' : World} {B B' : Nat} (h : PowW w B) (k : Below B' w w') (hB : B ≤ B') : PowW w' B := ⟨var?_below k (show Tryz.prog.globalNamed "internal/strconv.uint64pow10" = some 1 by kernel_rfl) (by have := h.2; omega) h.1, h.2⟩
theorem PowW.more {w : World} {B B' : Nat} (h : PowW w B) (hB : B ≤ B') : PowW w B' := ⟨h.1, by have := h.2; omega⟩
theorem c_itoa {B : Nat} (n : Int) (w : World) (h : PowW w B) (h0 : -1000000000000 ≤ n) (h1 : n ≤ 1000000000000) :
    Calls Tryz.prog 52 #[.int .i64 n] w fun e w' => e = .returned (.string (str (itoa n))) ∧ Below w.heap.size w w' :=
  (Tryz.strconv_Itoa n (by omega) (by omega) w h.1).mono fun e w' ⟨he, k, os, hw⟩ => ⟨he, by rw [hw]; exact Lib.below_grow _ _ (Nat.le_refl _) k os⟩
theorem pow_of_reads {w : World} (h : Lib.VarReads Tryz.prog w "internal/strconv.uint64pow10" (Lib.tabData .u64 Lib.pow10Tab)) : PowW w w.heap.size := by
  obtain ⟨g, t, cs, fuel, p, h1, h2, h3, h4⟩ := h
  have hg : Tryz.prog.globalNamed "internal/strconv.uint64pow10" = some 1 := by kernel_rfl
  obtain rfl := Option.some.inj (hg.symm.trans h1)
  have ht : (Tryz.prog.globals[1]?).map (·.type) = some 130 := by kernel_rfl
  obtain rfl := Option.some.inj (ht.symm.trans h2)
  have e := Lib.cells_of_tab (n := 20) Tryz.underlying130 Tryz.underlying39 (by kernel_rfl) (by kernel_rfl) h4
  have hT : Lib.TabIs Tryz.prog w "internal/strconv.uint64pow10" .u64 Lib.pow10Tab := by unfold Lib.TabIs; rw [h3, ← e]
  have hc := hT.cell hg 0 (by rw [Lib.pow10Tab_length]; omega)
  have := World.block_lt_of_cell? _ _ hc
  exact ⟨hT, this⟩
theorem iface_of_trod {H : Type} {enc : TypeId × Value → H} {P : Program} {w : World} {base : Nat} {sp : Nat → Bool} {held : Bool} {fuel : Nat} {t : TypeId} {ms : Array (String × TypeId)} {cs : List Value} {nm : String} {d : DataW H} {p : List MemPlace}
    (ht : P.underlying t = some (.interface ms)) (h : DataW.trod enc P w base sp held fuel t cs = some (.iface nm d, p)) : ∃ u v, cs = [.iface u v] := by
  cases fuel with
  | zero => simp [DataW.trod] at h
  | succ fuel =>
    simp only [DataW.trod, ht] at h
    split at h
    all_goals first | exact ⟨_, _, rfl⟩ | (simp_all; done)
theorem iface_of_reads {w : World} {n nm : String} {d : DataW Unit} {g t : Nat} {ms : Array (String × TypeId)} (h : Lib.VarReads Tryz.prog w n (.iface nm d)) (hg : Tryz.prog.globalNamed n = some g) (ht : (Tryz.prog.globals[g]?).map (·.type) = some t) (hu : Tryz.prog.underlying t = some (.interface ms)) :
    (∃ tp p, w.var? Tryz.prog n = some #[.iface tp p]) ∧ g < w.heap.size := by
  obtain ⟨g', t', cs, fuel, p, h1, h2, h3, h4⟩ := h
  obtain rfl := Option.some.inj (hg.symm.trans h1)
  obtain rfl := Option.some.inj (ht.symm.trans h2)
  obtain ⟨u, v, e⟩ := iface_of_trod hu h4
  have e2 : cs = #[.iface u v] := by rw [← Array.toList_inj, e]
  subst e2
  have hc := World.var?_cell hg h3 0
  have := World.block_lt_of_cell? (w := w) (a := ⟨g, 0, none⟩) (u := .iface u v) (by simpa using hc)
  exact ⟨⟨u, v, h3⟩, this⟩
/-- The library's two errors on numbers. -/
def ErrW (w : World) (B : Nat) : Prop := (∃ tp p, w.var? Tryz.prog "strconv.ErrSyntax" = some #[.iface tp p]) ∧ (∃ tp p, w.var? Tryz.prog "strconv.ErrRange" = some #[.iface tp p]) ∧ 4 < B ∧ 5 < B
theorem ErrW.keep {w w' : World} {B B' : Nat} (h : ErrW w B) (k : Below B' w w') (hB : B ≤ B') : ErrW w' B := by
  obtain ⟨⟨t1, p1, h1⟩, ⟨t2, p2, h2⟩, h3, h4⟩ := h
  exact ⟨⟨t1, p1, var?_below k (show Tryz.prog.globalNamed "strconv.ErrSyntax" = some 4 by kernel_rfl) (by omega) h1⟩, ⟨t2, p2, var?_below k (show Tryz.prog.globalNamed "strconv.ErrRange" = some 5 by kernel_rfl) (by omega) h2⟩, h3, h4⟩
theorem err_of_reads {w : World} {n1 n2 : String} {d1 d2 : DataW Unit} (h1 : Lib.VarReads Tryz.prog w "strconv.ErrSyntax" (.iface n1 d1)) (h2 : Lib.VarReads Tryz.prog w "strconv.ErrRange" (.iface n2 d2)) : ErrW w w.heap.size := by
  have a := iface_of_reads h1 (g := 4) (t := 82) (by kernel_rfl) (by kernel_rfl) Tryz.underlying82
  have b := iface_of_reads h2 (g := 5) (t := 82) (by kernel_rfl) (by kernel_rfl) Tryz.underlying82
  exact ⟨a.1, b.1, a.2, b.2⟩
/-- A number, and no error. -/
theorem c_atoi_ok (s : ByteArray) (v : Int) (w : World) (hs : s.size ≤ 100000000) (h : Lib.atoiAll s.data.toList = .ok v) :
    Calls Tryz.prog 71 #[.string s] w fun e w' => e = .returned (.tuple #[.int .i64 v, .nilIface]) ∧ Below w.heap.size w w' :=
  (Tryz.strconv_Atoi_ok s (by omega) v h w).mono fun e w' ⟨he, hw⟩ => ⟨he, by
    rcases hw with rfl | ⟨t, rfl⟩
    · exact Below.refl _ _
    · exact Lib.bytesWorld_below _ _ _⟩
/-- No number: an error. -/
theorem c_atoi_bad {B : Nat} (s : ByteArray) (w : World) (hE : ErrW w B) (hs : s.size ≤ 100000000) (h : ∀ v, Lib.atoiAll s.data.toList ≠ .ok v) :
    Calls Tryz.prog 71 #[.string s] w fun e w' => ∃ (v : Int) (t : TypeId) (p : Value), e = .returned (.tuple #[.int .i64 v, .iface t p]) ∧ Below w.heap.size w w' := by
  obtain ⟨⟨t1, p1, h1⟩, ⟨t2, p2, h2⟩, _, _⟩ := hE
  match e : Lib.atoiAll s.data.toList with
  | Lib.NumEnd.ok v => exact absurd e (h v)
  | Lib.NumEnd.syntax => exact (Tryz.strconv_Atoi_syntax_var s (by omega) e t1 p1 w h1).mono fun e w' ⟨N, he, _, _, hb⟩ => ⟨_, _, _, he, hb⟩
  | Lib.NumEnd.range => exact (Tryz.strconv_Atoi_range_var s (by omega) e t2 p2 w h2).mono fun e w' ⟨N, he, _, _, hb⟩ => ⟨_, _, _, he, hb⟩
/-- The library's bound on short searches is some number. -/
def MaxW (w : World) (B : Nat) : Prop := (∃ m, w.cell? ⟨0, 0, none⟩ = some (.int .i64 m)) ∧ 0 < B
theorem MaxW.keep {w w' : World} {B B' : Nat} (h : MaxW w B) (k : Below B' w w') (hB : B ≤ B') : MaxW w' B := by
  obtain ⟨⟨m, hm⟩, hb⟩ := h
  exact ⟨⟨m, (k.cell (p := ⟨0, 0, none⟩) (by show 0 < B'; omega)).trans hm⟩, hb⟩
theorem max_of_shape {w : World} (h : w.ShapedOpen Tryz.prog) : ∃ m, w.cell? ⟨0, 0, none⟩ = some (.int .i64 m) :=
  Go.Proofs.cell_of_shapedOpen_int (g := 0) (t := 3) (zero := #[.int .i64 0]) (k := .i64) h (of_decide_eq_true (by kernel_rfl)) (by kernel_rfl) rfl (by kernel_rfl) (by kernel_rfl) Tryz.underlying3
theorem MaxW.of_shape {w : World} {B : Nat} (h : w.ShapedOpen Tryz.prog) (hB : w.heap.size ≤ B) : MaxW w B := by
  obtain ⟨m, hm⟩ := max_of_shape h
  have := World.block_lt_of_cell? _ _ hm
  exact ⟨⟨m, hm⟩, by simp at this; omega⟩
/-- A text has the byte b. -/
def hasB (b : UInt8) (l : List UInt8) : Bool := decide (b ∈ l)
theorem hasB_t {b : UInt8} {l : List UInt8} (h : b ∈ l) : hasB b l = true := decide_eq_true h
theorem hasB_f {b : UInt8} {l : List UInt8} (h : b ∉ l) : hasB b l = false := decide_eq_false h
theorem hasB_iff {b : UInt8} {l : List UInt8} : hasB b l = true ↔ b ∈ l := decide_eq_true_iff
theorem c_cut {B : Nat} (s : ByteArray) (b : UInt8) (w : World) (h : MaxW w B) (hs : s.size ≤ 100000000) :
    Calls Tryz.prog 36 #[.string s, .string (str [b])] w fun e w' => e = .returned (.tuple #[.string (str (Lib.cut s.data.toList [b]).1), .string (str (Lib.cut s.data.toList [b]).2.1), .bool (Lib.cut s.data.toList [b]).2.2]) ∧ ∃ n, w' = w.drewN n := by
  obtain ⟨⟨m, hm⟩, _⟩ := h
  exact Tryz.strings_Cut s (str [b]) m w (by omega) hm
theorem map_str (xs : List ByteArray) : scells (xs.map (·.data.toList)) = xs.map Value.string := by
  simp only [scells, List.map_map]
  refine List.map_congr_left fun s _ => ?_
  simp only [Function.comp]
  rw [str_list]
theorem c_split {B : Nat} (s : ByteArray) (b : UInt8) (w : World) (h : MaxW w B) (hs : s.size ≤ 10000000) :
    Calls Tryz.prog 35 #[.string s, .string (str [b])] w fun e w' => ∃ A cap, e = .returned (.slice A (spl b s.data.toList).length cap) ∧ OwnS w' w.heap.size A cap (spl b s.data.toList) ∧ Below w.heap.size w w' := by
  obtain ⟨⟨m, hm⟩, _⟩ := h
  refine (Tryz.strings_Split s (str [b]) m w (by omega) hm (by rw [str_size]; exact Nat.le_refl _)).mono fun e w' ⟨he, hw⟩ => ?_
  have hc : Lib.countB s (str [b]) + 1 = (spl b s.data.toList).length := (count_spl b s.data.toList).symm
  have hx : (Lib.splitB (str [b]) 0 (Lib.countB s (str [b])) s).map Value.string = scells (spl b s.data.toList) := by
    rw [← map_str, Lib.splitB_data, list_str]
    rw [show Lib.splitK [b] 0 (Lib.countB s (str [b])) s.data.toList = spl b s.data.toList from splitK_spl b _ _ rfl]
  rw [hc] at he
  rw [hx] at hw
  subst hw
  have hl := spl_len_le b s.data.toList
  have e2 : s.data.toList.length = s.size := Array.length_toList
  exact ⟨_, _, he, OwnS.lit w _ _ (Nat.le_refl _) (by omega), (Below.refl _ _).alloc (Nat.le_refl _) _⟩
theorem c_join {B c : Nat} {A : Option Addr} (xs : List (List UInt8)) (b : UInt8) (w : World) (h : OwnS w B A c xs) (hl : (jn b xs).length ≤ 1000000000) (hn : xs.length ≤ 100000000) :
    Calls Tryz.prog 53 #[.slice A xs.length c, .string (str [b])] w fun e w' => e = .returned (.string (str (jn b xs))) ∧ Below w.heap.size w w' := by
  by_cases h0 : xs = []
  · subst h0
    exact (Tryz.strings_Join_none A c (str [b]) w).mono fun e w' ⟨he, hw⟩ => ⟨he, by rw [hw]; exact Below.refl _ _⟩
  · obtain ⟨ad, e0, hb, hcell⟩ := h.strs (by rw [scells_length]; exact List.length_pos_iff.2 h0)
    obtain ⟨g, rfl, _⟩ := own_head h (List.length_pos_iff.2 h0)
    injection e0 with e0
    subst e0
    have hcap : xs.length ≤ c := by
      rcases h.2 with ⟨hv, _⟩ | ⟨g', cap, cur, hv, _, _, hcap, _⟩
      · cases hv
      · simp only [Value.slice.injEq] at hv
        omega
    have e1 : (xs.map str).map (·.data.toList) = xs := by
      rw [List.map_map]
      conv => rhs; rw [← List.map_id xs]
      exact List.map_congr_left fun x _ => rfl
    have hJ := Tryz.strings_Join g 0 c (xs.map str) (str [b]) w (fun j x hx => by
      have h1 := hcell j (.string x) (by
        rw [List.getElem?_map] at hx
        obtain ⟨y, hy, rfl⟩ := Option.map_eq_some_iff.1 hx
        unfold scells
        rw [List.getElem?_map, hy]
        rfl)
      rw [add_lit] at h1
      rw [Nat.zero_add]
      exact h1) hb (by rw [List.length_map]; omega) (by rw [List.length_map]; exact hcap) (by rw [e1, list_str, join_jn]; omega)
    rw [e1, list_str, join_jn, List.length_map] at hJ
    exact hJ
end Go.Proofs.YtlammcoiaeodfaaGreatDoor
