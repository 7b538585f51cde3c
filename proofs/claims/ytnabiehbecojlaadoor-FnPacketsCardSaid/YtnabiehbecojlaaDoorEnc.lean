/- Packets as digits: written by the reference's loop, by the program's list of bytes. -/
import Derived.Test.YtnabiehbecojlaaDoorOctP
import Derived.Test.YtnabiehbecojlaaDoorPkLaw
import Derived.Test.YtnabiehbecojlaaDoorNum
import Derived.Laws.IdiomStrings
namespace Go.Proofs.YtnabiehbecojlaaDoor
open Go.RowKit
set_option linter.unusedVariables false
set_option maxRecDepth 100000

def D16 : ByteArray := ⟨#[48, 49, 50, 51, 52, 53, 54, 55, 56, 57, 65, 66, 67, 68, 69, 70]⟩
theorem hex_piece : ∀ m : Fin 16, D16.extract m.val (m.val + 1) = str [hx m.val] := by decide +kernel
theorem run_hexd (d : Nat) (h : d < 16) (W : World) : (Instr.slice 9 (.string ⟨#[48, 49, 50, 51, 52, 53, 54, 55, 56, 57, 65, 66, 67, 68, 69, 70]⟩) (some (.int .i64 (d : Int))) (some (.int .i64 ((d : Int) + 1))) none).run Tryd.prog W = .ok (.string (str [hx d])) W := by
  rw [run_slice_string (P := Tryd.prog) W 9 _ .i64 .i64 (d : Int) ((d : Int) + 1) Tryd.underlying9 (by omega) (by omega) (by show (d : Int) + 1 ≤ 16; omega)]
  have := hex_piece ⟨d, h⟩
  unfold D16 at this
  rw [← this]
  rfl
theorem hexL_snoc (zs : List Int) {j : Nat} (h : j < zs.length) {a b : Nat} (ha : zs.getD j 0 / 16 = (a : Int)) (hb : zs.getD j 0 % 16 = (b : Int)) : hexL (zs.take (j + 1)) = hexL (zs.take j) ++ [hx a] ++ [hx b] := by
  rw [take_snoc_z zs j h, hexL_append]
  show _ ++ (hexO (zs.getD j 0) ++ []) = _
  unfold hexO
  rw [ha, hb]
  simp
theorem nib (x : Int) (h0 : 0 ≤ x) (h1 : x ≤ 255) : ∃ a b : Nat, x / 16 = (a : Int) ∧ x % 16 = (b : Int) ∧ a < 16 ∧ b < 16 := ⟨(x / 16).toNat, (x % 16).toNat, by omega, by omega, by omega, by omega⟩
set_option maxHeartbeats 4000000 in
theorem c_l4Encode (k n t l : Int) (d : List UInt8) (w : World) (hg : goodP k n t l d = true) :
    Calls Tryd.prog 28 #[.agg (pkC k n t l d)] w fun e w' => e = .returned (.string (str (hexL (octL k n t l d)))) ∧ Below w.heap.size w w' := by
  have HO := Lib.hid (octL_isO hg)
  have hlen := octL_length k n t l d
  have hd8 := (goodP_t hg).2.2.2.2.2
  have hl18 : (octL k n t l d).length ≤ 18 := by omega
  have bb := Lib.hid ((Below.refl w.heap.size w).alloc (Nat.le_refl _) (.cells (pkC k n t l d) 27))
  have K := Lib.hid (pkAt_new k n t l d w 27)
  have C2 := fun W => Lib.hid (c_l4Octets k n t l d W hg)
  clear hlen hg
  generalize octL k n t l d = zs at *
  unfold pkC at *
  go_enter Tryd.func28, Tryd.ntmps28
  go_wp2_with fail
  refine (C2 _).out.mono ?_
  rintro e w2 ⟨A, cap, rfl, o2, b2⟩
  have HI := Lib.hid o2.ints
  have B2 := Lib.hid (bb.out.trans (b2.mono bb.out.size))
  clear o2 b2 bb K C2
  go_wp2_with fail
  go_loopw [3, 5] (fun v i wr => ∃ j : Nat, j ≤ zs.length ∧ i = .int .i64 j ∧ v = .string (str (hexL (zs.take j))) ∧ Hid (Below w2.heap.size w2 wr)) (fun _ i _ => zs.length - (intOf i).toNat)
  case atStart => exact ⟨0, Nat.zero_le _, rfl, rfl, Lib.hid (Below.refl _ _)⟩
  case round =>
    obtain ⟨j, hj, rfl, rfl, HB⟩ := hrel
    by_cases hlt : j < zs.length
    · obtain ⟨ad, rfl, _, hc⟩ := (HI.out.keep HB.out).at_ hlt
      obtain ⟨x0, x1⟩ := HO.out (zs.getD j 0) (by rw [List.getD_eq_getElem?_getD, List.getElem?_eq_getElem hlt]; exact List.getElem_mem _)
      obtain ⟨a, b, ha, hb, ha16, hb16⟩ := nib _ x0 x1
      have HN := Lib.hid (hexL_snoc zs hlt ha hb)
      generalize zs.getD j 0 = x at *
      have q1 : IntKind.i64.wrap (x.tdiv 16) = (a : Int) := by rw [Int.tdiv_eq_ediv_of_nonneg x0, ha]; exact IntWalk.i64_in _ (by omega)
      have q2 : x.tmod 16 = (b : Int) := by rw [Int.tmod_eq_emod_of_nonneg x0, hb]
      have s1 := run_hexd a ha16
      have s2 := run_hexd b hb16
      have w1 : IntKind.i64.wrap ((a : Int) + 1) = (a : Int) + 1 := IntWalk.i64_in _ (by omega)
      have w3 : IntKind.i64.wrap ((b : Int) + 1) = (b : Int) + 1 := IntWalk.i64_in _ (by omega)
      have hlh := hexL_length (zs.take j)
      rw [List.length_take] at hlh
      have hlh : (hexL (zs.take j)).length ≤ 36 := by omega
      generalize hexL (zs.take j) = p at *
      obtain ⟨t1, e1⟩ : ∃ t1, p ++ [hx a] = t1 := ⟨_, rfl⟩
      obtain ⟨t2, e2⟩ : ∃ t2, t1 ++ [hx b] = t2 := ⟨_, rfl⟩
      have l1 : t1.length ≤ 37 := by rw [← e1, List.length_append]; simp; omega
      have l2 : t2.length ≤ 38 := by rw [← e2, List.length_append]; simp; omega
      have hadd1 := fun W => run_add_str p [hx a] t1 e1 (by omega) W
      have hadd2 := fun W => run_add_str t1 [hx b] t2 e2 (by omega) W
      have HT : Hid (hexL (zs.take (j + 1)) = t2) := Lib.hid (by rw [HN.out, ← e2, ← e1])
      clear HN e1 e2 ha hb
      go_wp2_with fail
      go_quiet (fail)
      go_wp2_with fail
      go_quiet (fail)
      go_wp2
      go_roundw
      case rel => exact ⟨j + 1, by omega, by go_num, by rw [HT.out], by first | exact Lib.hid (below_dr (below_dr HB.out _) _) | exact Lib.hid (below_dr HB.out _)⟩
      case measure => simp [intOf]; omega
    · obtain rfl : j = zs.length := by omega
      have hT := Lib.hid (List.take_length (l := zs))
      go_wp2
      go_ret
      exact ⟨ret_s (by rw [hT.out]), B2.out.trans (HB.out.mono B2.out.size)⟩
def encR (k n t l : Int) (d : List UInt8) : List UInt8 := if goodP k n t l d then hexL (octL k n t l d) else []
set_option maxHeartbeats 4000000 in
theorem c_specEncodePacket (k n t l : Int) (d : List UInt8) (w : World) (hd : d.length ≤ 1000000000) :
    Calls Tryd.prog 9 #[.agg (pkC k n t l d)] w fun e w' => e = .returned (.tuple #[.string (str (encR k n t l d)), .bool (goodP k n t l d)]) ∧ Below w.heap.size w w' := by
  have C1 := fun W => Lib.hid (c_l4Good k n t l d W hd)
  have bb := Lib.hid ((Below.refl w.heap.size w).alloc (Nat.le_refl _) (.cells (pkC k n t l d) 27))
  have K := Lib.hid (pkAt_new k n t l d w 27)
  cases g1 : goodP k n t l d
  · rw [g1] at C1
    rw [show encR k n t l d = [] from by simp [encR, g1]]
    unfold pkC at *
    go_enter Tryd.func9, Tryd.ntmps9
    go_wp2_with fail
    refine (C1 _).out.mono ?_
    rintro e w1 ⟨rfl, b1⟩
    have HB := Lib.hid (bb.out.trans (b1.mono bb.out.size))
    clear b1 bb K
    go_wp2
    go_ret2
    exact ⟨rfl, HB.out⟩
  rw [g1] at C1
  rw [show encR k n t l d = hexL (octL k n t l d) from by simp [encR, g1]]
  have C2 := fun W => Lib.hid (c_l4Encode k n t l d W g1)
  unfold pkC at *
  go_enter Tryd.func9, Tryd.ntmps9
  go_wp2_with fail
  refine (C1 _).out.mono ?_
  rintro e w1 ⟨rfl, b1⟩
  obtain ⟨_, p0, p1, p2, p3, p4⟩ := (show PkAt k n t l d w.heap.size w1 from K.out.keep b1)
  have HB := Lib.hid (bb.out.trans (b1.mono bb.out.size))
  clear b1 bb K
  go_wp2_with fail
  refine (C2 _).out.mono ?_
  rintro e w2 ⟨rfl, b2⟩
  have B2 := Lib.hid (HB.out.trans (b2.mono HB.out.size))
  clear b2
  go_wp2
  go_ret2
  exact ⟨rfl, B2.out⟩
/-- The cells of bytes. -/
def ucells (l : List UInt8) : List Value := l.map fun b => .int .u8 (b.toNat : Int)
theorem ucells_length (l : List UInt8) : (ucells l).length = l.length := by simp [ucells]
def OwnU (w : World) (B : Nat) (A : Option Addr) (cap : Nat) (l : List UInt8) : Prop := w.ownsRow B 5 1 (.slice A l.length cap) l.length (ucells l)
theorem OwnU.nil (w : World) (B : Nat) : OwnU w B none 0 [] := World.ownsRow_nil w B _ 1
theorem OwnU.empty (w : World) (B : Nat) (hB : B ≤ w.heap.size) : OwnU (w.alloc (.cells #[] 5)) B (some ⟨w.heap.size, 0, none⟩) 0 [] := World.ownsRow_lit w #[] 0 hB (by unfold maxLen; omega) rfl
theorem OwnU.keep {w w' : World} {B cap : Nat} {A : Option Addr} {l : List UInt8} (h : OwnU w B A cap l) (k : Below w.heap.size w w') : OwnU w' B A cap l :=
  World.ownsRow.kept h (grownBy_of_below k) (by cases A <;> simp [Value.ownBlock])
theorem OwnU.push {w : World} {B cap : Nat} {A : Option Addr} {l : List UInt8} (h : OwnU w B A cap l) (o : Obj) : OwnU (w.alloc o) B A cap l := World.ownsRow.alloc h o
theorem u8_infoE : (Tryd.prog.info? 5).map (fun i => (i.zero, i.size, i.bytes)) = some (some (.int .u8 0), 1, 1) := by kernel_rfl
/-- 'append(out, ..)' of bytes onto a list of the call's own, at a step of a region that draws. -/
theorem wp_appU (w : World) {o : Oper} {a : Act} {K : Act → World → Prop} {Q : Exit → Act → World → Prop} (s x : Operand)
    (ho : o.op = .call { callee := .builtin .append, args := #[s, x], argTypes := #[34, 34] }) (B : Nat) (A : Option Addr) (cap : Nat) (l : List UInt8)
    (hs : a.eval s = .slice A l.length cap) (hown : OwnU w B A cap l) (ys : List UInt8) (ad : Addr) (c : Nat) (hx : a.eval x = .slice (some ad) ys.length c) (h0 : 0 < ys.length) (hy : ∀ j u, (ucells ys)[j]? = some u → w.cell? (ad.add j) = some u)
    (hl : l.length + ys.length ≤ 1000000000) (hB : B ≤ w.heap.size)
    (h : ∀ A' cap' w', OwnU w' B A' cap' (l ++ ys) → Below B w w' → K (a.put o.dst (.slice A' (l.length + ys.length) cap')) w') : o.wp Tryd.prog a w K Q := by
  obtain ⟨i0, hi, hz0, hz1, hz2⟩ := info_parts u8_infoE
  refine wp_append_own w s x 34 ho B 5 i0 (.int .u8 0) 1 1 Tryd.underlying34 hi hz0 hz1 hz2 rfl (by omega) _ l.length (ucells l) hs hown ad ys.length c (ucells ys) hx (by rw [ucells_length]; omega) (fun j u hu => hy j u hu) ?_ (by unfold maxLen; omega) (by omega) hB ?_
  · intro u hu
    obtain ⟨z, _, rfl⟩ := List.mem_map.1 hu
    rfl
  · intro v' w' hown' hgrow _
    have hb : Below B w w' := (Below.refl _ _).grown hgrow hB (fun k hk => (World.ownsRow.lt hown k hk).1)
    rcases hown'.2 with ⟨_, h1⟩ | ⟨g, c', cur, rfl, _⟩
    · omega
    · refine h _ _ _ ?_ hb
      have e : ucells l ++ ucells ys = ucells (l ++ ys) := by simp [ucells]
      rw [e] at hown'
      unfold OwnU
      rw [List.length_append]
      exact hown'
theorem step_appU (w : World) {ops : Array Oper} {o : Oper} {a : Act} {K : Act → World → Prop} {Q : Exit → Act → World → Prop} {E : Prop} (hg : o.guard = none) (s x : Operand)
    (ho : o.op = .call { callee := .builtin .append, args := #[s, x], argTypes := #[34, 34] }) (B : Nat) (A : Option Addr) (cap : Nat) (l : List UInt8)
    (hs : a.eval s = .slice A l.length cap) (hown : OwnU w B A cap l) (ys : List UInt8) (ad : Addr) (c : Nat) (hx : a.eval x = .slice (some ad) ys.length c) (h0 : 0 < ys.length) (hy : ∀ j u, (ucells ys)[j]? = some u → w.cell? (ad.add j) = some u)
    (hl : l.length + ys.length ≤ 1000000000) (hB : B ≤ w.heap.size)
    (h : ∀ A' cap' w', OwnU w' B A' cap' (l ++ ys) → Below B w w' → K (a.put o.dst (.slice A' (l.length + ys.length) cap')) w') :
    if Region.wanted o (yielded ops a.tmps) = true then Oper.wp Tryd.prog o a w K Q else E := by
  have hw : Region.wanted o (yielded ops a.tmps) = true := by simp [Region.wanted, hg]
  rw [if_pos hw]
  exact wp_appU w s x ho B A cap l hs hown ys ad c hx h0 hy hl hB h
theorem wpList_appU (w : World) {ops : Array Oper} {rest : List Oper} {o : Oper} {a : Act} {Q : Exit → Act → World → Prop} (hg : o.guard = none) (s x : Operand)
    (ho : o.op = .call { callee := .builtin .append, args := #[s, x], argTypes := #[34, 34] }) (B : Nat) (A : Option Addr) (cap : Nat) (l : List UInt8)
    (hs : a.eval s = .slice A l.length cap) (hown : OwnU w B A cap l) (ys : List UInt8) (ad : Addr) (c : Nat) (hx : a.eval x = .slice (some ad) ys.length c) (h0 : 0 < ys.length) (hy : ∀ j u, (ucells ys)[j]? = some u → w.cell? (ad.add j) = some u)
    (hl : l.length + ys.length ≤ 1000000000) (hB : B ≤ w.heap.size)
    (h : ∀ A' cap' w', OwnU w' B A' cap' (l ++ ys) → Below B w w' → wpList Tryd.prog ops Q rest (a.put o.dst (.slice A' (l.length + ys.length) cap')) w') : wpList Tryd.prog ops Q (o :: rest) a w :=
  wpList_plain hg fun _ hK => wp_appU w s x ho B A cap l hs hown ys ad c hx h0 hy hl hB fun A' cap' w' h2 h3 => hK _ _ (h A' cap' w' h2 h3)
/-- A new block of two bytes. -/
theorem two_u8 (x y : UInt8) (w : World) (n : Nat) (hn : w.heap.size = n) : ∀ j u, (ucells [x, y])[j]? = some u → (w.alloc (.cells #[.int .u8 (x.toNat : Int), .int .u8 (y.toNat : Int)] 5)).cell? ((⟨n, 0, none⟩ : Addr).add j) = some u := by
  subst hn
  intro j u hu
  match j, hu with
  | 0, hu => simp [ucells] at hu; subst hu; simp [go_sem]
  | 1, hu => simp [ucells] at hu; subst hu; simp [go_sem, add_lit]
  | j + 2, hu => simp [ucells] at hu
/-- The text of a list of bytes. -/
theorem own_text {w : World} {B cap : Nat} {A : Option Addr} {l : List UInt8} (h : OwnU w B A cap l) (h0 : 0 < l.length) (W : World) (hW : W = w) : (convert 34 9 (.slice A l.length cap)).run Tryd.prog W = .ok (.string (str l)) W := by
  subst hW
  obtain ⟨ad, rfl, _, hc⟩ := Lies.of_own h (by rw [ucells_length]; exact h0)
  exact run_convert_bytes_back W _ _ 5 ad cap l Tryd.underlying34 Tryd.underlying5 Tryd.underlying9 fun j hj => hc j _ (by simp [ucells, hj])
end Go.Proofs.YtnabiehbecojlaaDoor
