/- Packets as digits: written by the reference's loop, by the program's list of bytes. -/
import Derived.Test.YtpmfaiocmgkmpaaGreatDoorOctP
import Derived.Test.YtpmfaiocmgkmpaaGreatDoorPkLaw
import Derived.Test.YtpmfaiocmgkmpaaGreatDoorNum
import Derived.Laws.IdiomStrings
namespace Go.Proofs.YtpmfaiocmgkmpaaGreatDoor
open Go.RowKit
set_option linter.unusedVariables false
set_option maxRecDepth 100000

def D16 : ByteArray := ⟨#[48, 49, 50, 51, 52, 53, 54, 55, 56, 57, 65, 66, 67, 68, 69, 70]⟩
theorem hex_piece : ∀ m : Fin 16, D16.extract m.val (m.val + 1) = str [hx m.val] := by decide +kernel
theorem run_hexd (d : Nat) (h : d < 16) (W : World) : (Instr.slice 9 (.string ⟨#[48, 49, 50, 51, 52, 53, 54, 55, 56, 57, 65, 66, 67, 68, 69, 70]⟩) (some (.int .i64 (d : Int))) (some (.int .i64 ((d : Int) + 1))) none).run Tryz.prog W = .ok (.string (str [hx d])) W := by
  rw [run_slice_string (P := Tryz.prog) W 9 _ .i64 .i64 (d : Int) ((d : Int) + 1) Tryz.underlying9 (by omega) (by omega) (by show (d : Int) + 1 ≤ 16; omega)]
  have := hex_piece ⟨d, h⟩
  unfold D16 at this
  rw [← this]
  rfl
theorem hexL_snoc (zs : List Int) {j : Nat} (h : j < zs.length) {a b : Nat} (ha : zs.getD j 0 / 16 = (a : Int)) (hb : zs.getD j 0 % 16 = (b : Int)) : hexL (zs.take (j + 1)) = hexL (zs.take j) ++ [hx a] ++ [hx b] := by
  rw [take_snoc_z zs j h, hexL_append]
  show _ ++ (hexO (zs.getD j 0) ++ []) = _
  unfold hexO
  rw [ha, hb]
  simp
theorem nib (x : Int) (h0 : 0 ≤ x) (h1 : x ≤ 255) : ∃ a b : Nat, x / 16 = (a : Int) ∧ x % 16 = (b : Int) ∧ a < 16 ∧ b < 16 := ⟨(x / 16).toNat, (x % 16).toNat, by omega, by omega, by omega, by omega⟩
/-- The cells of bytes. -/
def ucells (l : List UInt8) : List Value := l.map fun b => .int .u8 (b.toNat : Int)
theorem ucells_length (l : List UInt8) : (ucells l).length = l.length := by simp [ucells]
def OwnU (w : World) (B : Nat) (A : Option Addr) (cap : Nat) (l : List UInt8) : Prop := w.ownsRow B 5 1 (.slice A l.length cap) l.length (ucells l)
theorem OwnU.nil (w : World) (B : Nat) : OwnU w B none 0 [] := World.ownsRow_nil w B _ 1
theorem OwnU.empty (w : World) (B : Nat) (hB : B ≤ w.heap.size) : OwnU (w.alloc (.cells #[] 5)) B (some ⟨w.heap.size, 0, none⟩) 0 [] := World.ownsRow_lit w #[] 0 hB (by unfold maxLen; omega) rfl
theorem OwnU.keep {w w' : World} {B cap : Nat} {A : Option Addr} {l : List UInt8} (h : OwnU w B A cap l) (k : Below w.heap.size w w') : OwnU w' B A cap l :=
  World.ownsRow.kept h (grownBy_of_below k) (by cases A <;> simp [Value.ownBlock])
theorem OwnU.push {w : World} {B cap : Nat} {A : Option Addr} {l : List UInt8} (h : OwnU w B A cap l) (o : Obj) : OwnU (w.alloc o) B A cap l := World.ownsRow.alloc h o
theorem u8_infoE : (Tryz.prog.info? 5).map (fun i => (i.zero, i.size, i.bytes)) = some (some (.int .u8 0), 1, 1) := by kernel_rfl
/-- 'append(out, ..)' of bytes onto a list of the call's own, at a step of a region that draws. -/
theorem wp_appU (w : World) {o : Oper} {a : Act} {K : Act → World → Prop} {Q : Exit → Act → World → Prop} (s x : Operand)
    (ho : o.op = .call { callee := .builtin .append, args := #[s, x], argTypes := #[22, 22] }) (B : Nat) (A : Option Addr) (cap : Nat) (l : List UInt8)
    (hs : a.eval s = .slice A l.length cap) (hown : OwnU w B A cap l) (ys : List UInt8) (ad : Addr) (c : Nat) (hx : a.eval x = .slice (some ad) ys.length c) (h0 : 0 < ys.length) (hy : ∀ j u, (ucells ys)[j]? = some u → w.cell? (ad.add j) = some u)
    (hl : l.length + ys.length ≤ 1000000000) (hB : B ≤ w.heap.size)
    (h : ∀ A' cap' w', OwnU w' B A' cap' (l ++ ys) → Below B w w' → K (a.put o.dst (.slice A' (l.length + ys.length) cap')) w') : o.wp Tryz.prog a w K Q := by
  obtain ⟨i0, hi, hz0, hz1, hz2⟩ := info_parts u8_infoE
  refine wp_append_own w s x 22 ho B 5 i0 (.int .u8 0) 1 1 Tryz.underlying22 hi hz0 hz1 hz2 rfl (by omega) _ l.length (ucells l) hs hown ad ys.length c (ucells ys) hx (by rw [ucells_length]; omega) (fun j u hu => hy j u hu) ?_ (by unfold maxLen; omega) (by omega) hB ?_
  · intro u hu
    obtain ⟨z, _, rfl⟩ := List.mem_map.1 hu
    rfl
  · intro v' w' hown' hgrow _
    have hb : Below B w w' := (Below.refl _ _).grown hgrow hB (fun k hk => (World.ownsRow.lt hown k hk).1)
    rcases hown'.2 with ⟨_, h1⟩ | ⟨g, c', cur, rfl, _⟩
    · omega
    · refine h _ _ _ ?_ hb
      have e : ucells l ++ ucells ys = ucells (l ++ ys) := by simp [ucells]
      rw [e] at hown'
      unfold OwnU
      rw [List.length_append]
      exact hown'
theorem step_appU (w : World) {ops : Array Oper} {o : Oper} {a : Act} {K : Act → World → Prop} {Q : Exit → Act → World → Prop} {E : Prop} (hg : o.guard = none) (s x : Operand)
    (ho : o.op = .call { callee := .builtin .append, args := #[s, x], argTypes := #[22, 22] }) (B : Nat) (A : Option Addr) (cap : Nat) (l : List UInt8)
    (hs : a.eval s = .slice A l.length cap) (hown : OwnU w B A cap l) (ys : List UInt8) (ad : Addr) (c : Nat) (hx : a.eval x = .slice (some ad) ys.length c) (h0 : 0 < ys.length) (hy : ∀ j u, (ucells ys)[j]? = some u → w.cell? (ad.add j) = some u)
    (hl : l.length + ys.length ≤ 1000000000) (hB : B ≤ w.heap.size)
    (h : ∀ A' cap' w', OwnU w' B A' cap' (l ++ ys) → Below B w w' → K (a.put o.dst (.slice A' (l.length + ys.length) cap')) w') :
    if Region.wanted o (yielded ops a.tmps) = true then Oper.wp Tryz.prog o a w K Q else E := by
  have hw : Region.wanted o (yielded ops a.tmps) = true := by simp [Region.wanted, hg]
  rw [if_pos hw]
  exact wp_appU w s x ho B A cap l hs hown ys ad c hx h0 hy hl hB h
theorem wpList_appU (w : World) {ops : Array Oper} {rest : List Oper} {o : Oper} {a : Act} {Q : Exit → Act → World → Prop} (hg : o.guard = none) (s x : Operand)
    (ho : o.op = .call { callee := .builtin .append, args := #[s, x], argTypes := #[22, 22] }) (B : Nat) (A : Option Addr) (cap : Nat) (l : List UInt8)
    (hs : a.eval s = .slice A l.length cap) (hown : OwnU w B A cap l) (ys : List UInt8) (ad : Addr) (c : Nat) (hx : a.eval x = .slice (some ad) ys.length c) (h0 : 0 < ys.length) (hy : ∀ j u, (ucells ys)[j]? = some u → w.cell? (ad.add j) = some u)
    (hl : l.length + ys.length ≤ 1000000000) (hB : B ≤ w.heap.size)
    (h : ∀ A' cap' w', OwnU w' B A' cap' (l ++ ys) → Below B w w' → wpList Tryz.prog ops Q rest (a.put o.dst (.slice A' (l.length + ys.length) cap')) w') : wpList Tryz.prog ops Q (o :: rest) a w :=
  wpList_plain hg fun _ hK => wp_appU w s x ho B A cap l hs hown ys ad c hx h0 hy hl hB fun A' cap' w' h2 h3 => hK _ _ (h A' cap' w' h2 h3)
/-- A new block of two bytes. -/
theorem two_u8 (x y : UInt8) (w : World) (n : Nat) (hn : w.heap.size = n) : ∀ j u, (ucells [x, y])[j]? = some u → (w.alloc (.cells #[.int .u8 (x.toNat : Int), .int .u8 (y.toNat : Int)] 5)).cell? ((⟨n, 0, none⟩ : Addr).add j) = some u := by
  subst hn
  intro j u hu
  match j, hu with
  | 0, hu => simp [ucells] at hu; subst hu; simp [go_sem]
  | 1, hu => simp [ucells] at hu; subst hu; simp [go_sem, add_lit]
  | j + 2, hu => simp [ucells] at hu
/-- The text of a list of bytes. -/
theorem own_text {w : World} {B cap : Nat} {A : Option Addr} {l : List UInt8} (h : OwnU w B A cap l) (h0 : 0 < l.length) (W : World) (hW : W = w) : (convert 22 9 (.slice A l.length cap)).run Tryz.prog W = .ok (.string (str l)) W := by
  subst hW
  obtain ⟨ad, rfl, _, hc⟩ := Lies.of_own h (by rw [ucells_length]; exact h0)
  exact run_convert_bytes_back W _ _ 5 ad cap l Tryz.underlying22 Tryz.underlying5 Tryz.underlying9 fun j hj => hc j _ (by simp [ucells, hj])
end Go.Proofs.YtpmfaiocmgkmpaaGreatDoor
