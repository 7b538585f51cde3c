/- A packet's line, written by the reference and by the program. -/
import Derived.Test.YtpmfaiocmgkmpaaGreatDoorPkF
import Derived.Test.YtpmfaiocmgkmpaaGreatDoorLib
import Derived.Test.YtpmfaiocmgkmpaaGreatDoorNum
import Derived.Test.YtpmfaiocmgkmpaaGreatDoorPkS
import Derived.ChangeBook
import Derived.ChangeVars
import Derived.Below
import Derived.Deep.RegionHeld3
namespace Go.Proofs.YtpmfaiocmgkmpaaGreatDoor
open Go.RowKit
open Go.Lib (itoa)
set_option linter.unusedVariables false
set_option maxRecDepth 100000

open Go.Lib (decDigits) in
theorem num_len {n : Int} (h0 : 0 ≤ n) (h1 : n ≤ 65535) : 1 ≤ (itoa n).length ∧ (itoa n).length ≤ 5 := by
  rw [itoa_pos' h0]
  exact ⟨decDigits_pos _, decDigits_len 4 _ (by omega)⟩
def kindL : List (List UInt8) := [[], [100, 97, 116, 97], [114, 101, 112, 97, 105, 114], [114, 101, 113, 117, 101, 115, 116], [99, 111, 110, 102, 105, 114, 109], [115, 116, 97, 116, 117, 115]]
def kwAt (m : Nat) : List UInt8 := kindL.getD m []
theorem kwAt_len (m : Nat) : (kwAt m).length ≤ 7 := by
  match m with
  | 0 | 1 | 2 | 3 | 4 | 5 => decide
  | m + 6 => simp [kwAt, kindL]
def lineL (m : Nat) (n t l : Int) (d : List UInt8) : List UInt8 := kwAt m ++ [32] ++ itoa n ++ [32, 111, 102, 32] ++ itoa t ++ [45] ++ itoa l ++ (if d = [] then [] else [32] ++ d)
def lineR (k n t l : Int) (d : List UInt8) : List UInt8 := if goodP k n t l d then lineL k.toNat n t l d else []
/-- The words of the kinds, as the program's variable holds them, among the blocks below B. -/
def KindW (w : World) (B : Nat) : Prop := (∀ m : Nat, m < 6 → w.cell? ⟨0, m, none⟩ = some (.string (str (kwAt m)))) ∧ 0 < B
theorem KindW.keep {w w' : World} {B B' : Nat} (h : KindW w B) (k : Below B' w w') (hB : B ≤ B') : KindW w' B :=
  ⟨fun m hm => (k.cell (p := ⟨0, m, none⟩) (Nat.lt_of_lt_of_le h.2 hB)).trans (h.1 m hm), h.2⟩
theorem cells_of_strs {H : Type} {enc : TypeId × Value → H} {P : Program} {w : World} {base : Nat} {sp : Nat → Bool} {held : Bool} {fuel : Nat} {t e : TypeId} {n : Nat} {cs : List Value} {ls : List (List UInt8)} {p : List MemPlace}
    (ht : P.underlying t = some (.array n e)) (he : P.underlying e = some .string) (hce : P.cellsOf e = 1) (hct : P.cellsOf t = n)
    (h : DataW.trod enc P w base sp held fuel t cs = some (.agg (ls.map fun l => .lit (.string l)), p)) : cs = ls.map fun l => Value.string (str l) := by
  obtain ⟨xs, m, _, hx, hcl, hxl, hget⟩ := DataW.trod_array ht h
  have hxs : xs.map (·.1) = ls.map fun l => (DataW.lit (.string l) : DataW H) := by
    have := congrArg Prod.fst hx
    simp only [DataW.agg.injEq] at this
    exact this.symm
  have hll : ls.length = n := by
    have := congrArg List.length hxs
    simp at this
    omega
  apply List.ext_getElem?
  intro i
  by_cases hi : i < n
  · have hg := hget i hi
    rw [List.getElem?_eq_getElem (by omega : i < xs.length), hce, Nat.mul_one] at hg
    obtain ⟨s, hs, hx2, _⟩ := DataW.trod_string he hg
    have h1 : cs[i]? = some (.string s) := by
      have := congrArg (·[0]?) hs
      simpa [List.getElem?_take, List.getElem?_drop] using this
    have h2 : (xs.map (·.1))[i]? = some (DataW.lit (.string s.data.toList) : DataW H) := by
      rw [List.getElem?_map, List.getElem?_eq_getElem (by omega : i < xs.length), hx2]
      rfl
    rw [hxs] at h2
    simp only [List.getElem?_map, Option.map_eq_some_iff, DataW.lit.injEq, Lit.string.injEq] at h2
    obtain ⟨z, hz, rfl⟩ := h2
    rw [h1, List.getElem?_map, hz]
    simp [str_list]
  · rw [List.getElem?_eq_none (by omega), List.getElem?_eq_none (by simp; omega)]
theorem kind_of_reads {w : World} (h : Lib.VarReads Tryz.prog w "loop.example/g00840/impl.kindWords" (.agg (kindL.map fun l => .lit (.string l)))) : KindW w w.heap.size := by
  obtain ⟨g, t, cs, fuel, p, h1, h2, h3, h4⟩ := h
  have hg : Tryz.prog.globalNamed "loop.example/g00840/impl.kindWords" = some 0 := by kernel_rfl
  obtain rfl := Option.some.inj (hg.symm.trans h1)
  have ht : (Tryz.prog.globals[0]?).map (·.type) = some 49 := by kernel_rfl
  obtain rfl := Option.some.inj (ht.symm.trans h2)
  have e := cells_of_strs (n := 6) Tryz.underlying49 Tryz.underlying9 (by kernel_rfl) (by kernel_rfl) h4
  have hc : ∀ m : Nat, m < 6 → w.cell? ⟨0, m, none⟩ = some (.string (str (kwAt m))) := fun m hm => by
    have := World.var?_cell hg h3 m
    rw [this, ← Array.getElem?_toList, e, List.getElem?_map]
    match m, hm with
    | 0, _ | 1, _ | 2, _ | 3, _ | 4, _ | 5, _ => rfl
  exact ⟨hc, World.block_lt_of_cell? _ _ (hc 0 (by omega))⟩

open Go Go.ChangeShapes Go.WideShapes in
theorem kind_vars {H : Type} {enc : TypeId × Value → H} {W W' : World} {gs : List (DataW H)} {q : List MemPlace} (hV : DataW.TrodVars enc Tryz.prog W (fun _ => true) ["loop.example/g00840/impl.kindWords"] gs q) (bel : Below W.heap.size W W') :
    DataW.TrodVars enc Tryz.prog W' (fun b => decide (b < W.heap.size)) ["loop.example/g00840/impl.kindWords"] gs q := by
  have hlt := hV.lt
  obtain ⟨g, t, cs, fuel, d, p, rfl, h1, h2, h3, h4, rfl⟩ := ChangeShapes.trodVars_one hV
  have hg : Tryz.prog.globalNamed "loop.example/g00840/impl.kindWords" = some 0 := by kernel_rfl
  obtain rfl := Option.some.inj (hg.symm.trans h1)
  have ht : (Tryz.prog.globals[0]?).map (·.type) = some 49 := by kernel_rfl
  obtain rfl := Option.some.inj (ht.symm.trans h2)
  obtain ⟨xs, m, _, _, hcl, _⟩ := DataW.trod_array Tryz.underlying49 h4
  have h6 : Tryz.prog.cellsOf 49 = 6 := by kernel_rfl
  have hc0 := World.var?_cell hg h3 0
  rw [Array.getElem?_eq_getElem (by rw [← Array.length_toList, hcl, h6]; omega)] at hc0
  have hg0 := World.block_lt_of_cell? _ _ hc0
  have hl : laidOutB Tryz.prog = true := by kernel_rfl
  have hr : Tryz.prog.readableRec 49 = true := by kernel_rfl
  exact ChangeShapes.trodVars_mk1 h1 h2 (var?_below bel hg hg0 h3) (DataW.trod_stays (kids_book hl hr) (book_sized hr) (fun h => by cases h) ⟨of_decide_eq_true (by kernel_rfl), book_self _⟩ h4 (fun x hx => bel.same (hlt x (List.mem_append_right _ hx))) (fun x hx => by simpa using hlt x (List.mem_append_right _ hx)))
/-- A region walked under a condition that says more. -/
theorem wpAnyH_weaken {P : Program} {md : Region.Mode} {ops : Array Oper} {Q : Exit → Act → World → Prop} {S S' : World → Prop} (h : ∀ w, S' w → S w) : ∀ (fuel : Nat) (listed : Array Bool) (a : Act) (w : World), wpAnyH P md ops Q S' fuel listed a w → wpAnyH P md ops Q S fuel listed a w
  | 0, _, _, _, k => k
  | fuel + 1, _, _, _, k => ⟨k.1, fun i hi => wpOp_mono (fun a' w' k' => ⟨h _ k'.1, wpAnyH_weaken h fuel _ a' w' k'.2⟩) (k.2 i hi)⟩
def wcells : Array Value := #[.string ⟨#[]⟩, .string ⟨#[100, 97, 116, 97]⟩, .string ⟨#[114, 101, 112, 97, 105, 114]⟩, .string ⟨#[114, 101, 113, 117, 101, 115, 116]⟩, .string ⟨#[99, 111, 110, 102, 105, 114, 109]⟩, .string ⟨#[115, 116, 97, 116, 117, 115]⟩]
theorem wcells_at (m : Nat) (hm : m < 6) : wcells[m]? = some (.string (str (kwAt m))) := by
  match m, hm with
  | 0, _ | 1, _ | 2, _ | 3, _ | 4, _ | 5, _ => rfl
theorem c_l4Words (w : World) :
    Calls Tryz.prog 50 #[] w fun e w' => e = .returned (.slice (some ⟨w.heap.size, 0, none⟩) 6 6) ∧ w' = w.alloc (.cells wcells 9) := by
  unfold wcells
  go_enter Tryz.func50, Tryz.ntmps50
  go_wp2
  go_ret
  exact ⟨rfl, rfl⟩
set_option maxHeartbeats 4000000 in
theorem c_l4Line (m : Nat) (n t l : Int) (d : List UInt8) (w : World) (hm : m < 6) (hn : 0 ≤ n ∧ n ≤ 65535) (ht : 0 ≤ t ∧ t ≤ 65535) (hl : 0 ≤ l ∧ l ≤ 65535) (hd : d.length ≤ 1000) :
    Calls Tryz.prog 26 #[.agg (pkC (m : Int) n t l d)] w fun e w' => e = .returned (.string (str (lineL m n t l d))) ∧ Below w.heap.size w w' := by
  have bb := Lib.hid ((Below.refl w.heap.size w).alloc (Nat.le_refl _) (.cells (pkC (m : Int) n t l d) 25))
  have K := pkAt_new (m : Int) n t l d w 25
  have lk := kwAt_len m
  have ln := (num_len hn.1 hn.2).2
  have lt := (num_len ht.1 ht.2).2
  have ll := (num_len hl.1 hl.2).2
  have CN := fun W => Lib.hid (c_l1Num n W (by omega) (by omega))
  have CT := fun W => Lib.hid (c_l1Num t W (by omega) (by omega))
  have CL := fun W => Lib.hid (c_l1Num l W (by omega) (by omega))
  have HL : Hid (lineL m n t l d = kwAt m ++ [32] ++ itoa n ++ [32, 111, 102, 32] ++ itoa t ++ [45] ++ itoa l ++ (if d = [] then [] else [32] ++ d)) := Lib.hid rfl
  generalize lineL m n t l d = L at *
  have HW := Lib.hid (wcells_at m hm)
  generalize kwAt m = kw at *
  obtain ⟨s1, e1⟩ : ∃ s1, kw ++ [32] = s1 := ⟨_, rfl⟩
  obtain ⟨s2, e2⟩ : ∃ s2, s1 ++ itoa n = s2 := ⟨_, rfl⟩
  obtain ⟨s3, e3⟩ : ∃ s3, s2 ++ [32, 111, 102, 32] = s3 := ⟨_, rfl⟩
  obtain ⟨s4, e4⟩ : ∃ s4, s3 ++ itoa t = s4 := ⟨_, rfl⟩
  obtain ⟨s5, e5⟩ : ∃ s5, s4 ++ [45] = s5 := ⟨_, rfl⟩
  obtain ⟨s6, e6⟩ : ∃ s6, s5 ++ itoa l = s6 := ⟨_, rfl⟩
  obtain ⟨s7, e7⟩ : ∃ s7, s6 ++ [32] = s7 := ⟨_, rfl⟩
  obtain ⟨s8, e8⟩ : ∃ s8, s7 ++ d = s8 := ⟨_, rfl⟩
  have l1 : s1.length = kw.length + 1 := by rw [← e1, List.length_append]; rfl
  have l2 : s2.length = s1.length + (itoa n).length := by rw [← e2, List.length_append]
  have l3 : s3.length = s2.length + 4 := by rw [← e3, List.length_append]; rfl
  have l4 : s4.length = s3.length + (itoa t).length := by rw [← e4, List.length_append]
  have l5 : s5.length = s4.length + 1 := by rw [← e5, List.length_append]; rfl
  have l6 : s6.length = s5.length + (itoa l).length := by rw [← e6, List.length_append]
  have l7 : s7.length = s6.length + 1 := by rw [← e7, List.length_append]; rfl
  have l8 : s8.length = s7.length + d.length := by rw [← e8, List.length_append]
  have a1 := fun W => run_add_str kw [32] s1 e1 (by omega) W
  have a2 := fun W => run_add_str s1 (itoa n) s2 e2 (by omega) W
  have a3 := fun W => run_add_str s2 [32, 111, 102, 32] s3 e3 (by omega) W
  have a4 := fun W => run_add_str s3 (itoa t) s4 e4 (by omega) W
  have a5 := fun W => run_add_str s4 [45] s5 e5 (by omega) W
  have a6 := fun W => run_add_str s5 (itoa l) s6 e6 (by omega) W
  have a7 := fun W => run_add_str s6 [32] s7 e7 (by omega) W
  have a8 := fun W => run_add_str s7 d s8 e8 (by omega) W
  have a1 : ∀ W, (Op.stringOp .add (str kw) ⟨#[32]⟩).run Tryz.prog W = .ok (.string (str s1)) W := a1
  have a3 : ∀ W, (Op.stringOp .add (str s2) ⟨#[32, 111, 102, 32]⟩).run Tryz.prog W = .ok (.string (str s3)) W := a3
  have a5 : ∀ W, (Op.stringOp .add (str s4) ⟨#[45]⟩).run Tryz.prog W = .ok (.string (str s5)) W := a5
  have a7 : ∀ W, (Op.stringOp .add (str s6) ⟨#[32]⟩).run Tryz.prog W = .ok (.string (str s7)) W := a7
  have HT : Hid (L = if d = [] then s6 else s8) := Lib.hid (by
    rw [HL.out, ← e8, ← e7, ← e6, ← e5, ← e4, ← e3, ← e2, ← e1]
    split <;> simp)
  obtain ⟨hn0, hn1⟩ := hn
  obtain ⟨ht0, ht1⟩ := ht
  obtain ⟨hl0, hl1⟩ := hl
  clear HL e1 e2 e3 e4 e5 e6 e7 e8 l1 l2 l3 l4 l5 l6 l7 l8 lk ln lt ll CN CT CL
  have hmi : (m : Int) < 6 := by omega
  unfold pkC at *
  go_enter Tryz.func26, Tryz.ntmps26
  obtain ⟨hsv, p0, p1, p2, p3, p4⟩ := K
  go_upto_region 1 with fail
  generalize w.alloc (.cells #[.int .i64 (m : Int), .int .i64 n, .int .i64 t, .int .i64 l, .string (str d)] 25) = v at *
  go_cut [3] from 4 to 23 (fun sx wx => sx = .string (str s6) ∧ Hid (Below v.heap.size v wx))
  case first => as_aux_lemma =>
    have hw := HW.out
    have hw8 : (v.alloc (.cells wcells 9)).cell? ⟨v.heap.size, m, none⟩ = some (.string (str kw)) := by simp [go_sem, hw]
    refine wp_region_held_drew (S := (fun W => W.cell? ⟨w.heap.size, 0, none⟩ = some (.int .i64 (m : Int)) ∧ W.cell? ⟨w.heap.size, 1, none⟩ = some (.int .i64 n) ∧ W.cell? ⟨w.heap.size, 2, none⟩ = some (.int .i64 t) ∧ W.cell? ⟨w.heap.size, 3, none⟩ = some (.int .i64 l))) (by kernel_rfl) ?_ (fun hHeld => ?_)
    · (try dsimp only); refine ⟨?_, ?_, ?_, ?_⟩ <;> first | assumption | go_keep
    refine wpAnyH_take (i := 1) (v := ?_) rfl (by kernel_rfl) (by kernel_rfl) (by kernel_rfl) (fun _ _ _ h => h) (Or.inl ⟨by rfl, ?_⟩) hHeld ?_
    rotate_left
    · (intro w hSw; (try dsimp only at hSw); go_simp)
      try with_reducible rfl
    simp only [Act.put, List.setIfInBounds_toArray, List.set_cons_zero, List.set_cons_succ]
    refine wpAnyH_take (i := 2) (v := ?_) rfl (by kernel_rfl) (by kernel_rfl) (by kernel_rfl) (fun _ _ _ h => h) (Or.inl ⟨by rfl, ?_⟩) hHeld ?_
    rotate_left
    · (intro w hSw; (try dsimp only at hSw); go_simp)
      try with_reducible rfl
    simp only [Act.put, List.setIfInBounds_toArray, List.set_cons_zero, List.set_cons_succ]
    refine wpAnyH_take (i := 6) (v := ?_) rfl (by kernel_rfl) (by kernel_rfl) (by kernel_rfl) (fun _ _ _ h => h) (Or.inl ⟨by rfl, ?_⟩) hHeld ?_
    rotate_left
    · (intro w hSw; (try dsimp only at hSw); go_simp)
      try with_reducible rfl
    simp only [Act.put, List.setIfInBounds_toArray, List.set_cons_zero, List.set_cons_succ]
    refine wpAnyH_take (i := 7) (v := ?_) rfl (by kernel_rfl) (by kernel_rfl) (by kernel_rfl) (fun _ _ _ h => h) (Or.inl ⟨by rfl, ?_⟩) hHeld ?_
    rotate_left
    · (intro w hSw; (try dsimp only at hSw); go_simp)
      try with_reducible rfl
    simp only [Act.put, List.setIfInBounds_toArray, List.set_cons_zero, List.set_cons_succ]
    refine wpAnyH_take (i := 11) (v := ?_) rfl (by kernel_rfl) (by kernel_rfl) (by kernel_rfl) (fun _ _ _ h => h) (Or.inl ⟨by rfl, ?_⟩) hHeld ?_
    rotate_left
    · (intro w hSw; (try dsimp only at hSw); go_simp)
      try with_reducible rfl
    simp only [Act.put, List.setIfInBounds_toArray, List.set_cons_zero, List.set_cons_succ]
    refine wpAnyH_take (i := 12) (v := ?_) rfl (by kernel_rfl) (by kernel_rfl) (by kernel_rfl) (fun _ _ _ h => h) (Or.inl ⟨by rfl, ?_⟩) hHeld ?_
    rotate_left
    · (intro w hSw; (try dsimp only at hSw); go_simp)
      try with_reducible rfl
    simp only [Act.put, List.setIfInBounds_toArray, List.set_cons_zero, List.set_cons_succ]
    refine wpAnyH_take (i := 16) (v := ?_) rfl (by kernel_rfl) (by kernel_rfl) (by kernel_rfl) (fun _ _ _ h => h) (Or.inl ⟨by rfl, ?_⟩) hHeld ?_
    rotate_left
    · (intro w hSw; (try dsimp only at hSw); go_simp)
      try with_reducible rfl
    simp only [Act.put, List.setIfInBounds_toArray, List.set_cons_zero, List.set_cons_succ]
    refine wpAnyH_take (i := 17) (v := ?_) rfl (by kernel_rfl) (by kernel_rfl) (by kernel_rfl) (fun _ _ _ h => h) (Or.inl ⟨by rfl, ?_⟩) hHeld ?_
    rotate_left
    · (intro w hSw; (try dsimp only at hSw); go_simp)
      try with_reducible rfl
    simp only [Act.put, List.setIfInBounds_toArray, List.set_cons_zero, List.set_cons_succ]
    refine wpAnyH_ready (rs := [0]) (by kernel_rfl) (by simp) ?_
    refine AllReadyH.cons rfl (fun K hK => ?_) AllReadyH.nil
    go_simp
    refine (c_l4Words _).mono ?_
    rintro e _ ⟨rfl, rfl⟩
    go_wp2_with fail
    refine hK.out _ _ ?_ (fun hHeld => ?_)
    · ((try dsimp only); refine ⟨?_, ?_, ?_, ?_⟩ <;> first | assumption | go_keep)
    clear hK K
    try simp only [Act.put, List.setIfInBounds_toArray, List.set_cons_zero, List.set_cons_succ]
    refine wpAnyH_weaken (S' := (fun W => W.cell? ⟨w.heap.size, 0, none⟩ = some (.int .i64 (m : Int)) ∧ W.cell? ⟨w.heap.size, 1, none⟩ = some (.int .i64 n) ∧ W.cell? ⟨w.heap.size, 2, none⟩ = some (.int .i64 t) ∧ W.cell? ⟨w.heap.size, 3, none⟩ = some (.int .i64 l) ∧ W.cell? ⟨v.heap.size, m, none⟩ = some (.string (str kw)))) (fun W h => ⟨h.1, h.2.1, h.2.2.1, h.2.2.2.1⟩) _ _ _ _ ?_
    refine wpAnyH_take (i := 3) (v := ?_) rfl (by kernel_rfl) (by kernel_rfl) (by kernel_rfl) (fun _ _ _ h => h) (Or.inl ⟨by rfl, ?_⟩) ⟨hHeld.1, hHeld.2.1, hHeld.2.2.1, hHeld.2.2.2, by go_keep⟩ ?_
    rotate_left
    · (intro w hSw; (try dsimp only at hSw); go_simp)
      try with_reducible rfl
    simp only [Act.put, List.setIfInBounds_toArray, List.set_cons_zero, List.set_cons_succ]
    refine wpAnyH_take (i := 4) (v := ?_) rfl (by kernel_rfl) (by kernel_rfl) (by kernel_rfl) (fun _ _ _ h => h) (Or.inl ⟨by rfl, ?_⟩) ⟨hHeld.1, hHeld.2.1, hHeld.2.2.1, hHeld.2.2.2, by go_keep⟩ ?_
    rotate_left
    · (intro w hSw; (try dsimp only at hSw); go_simp)
      try with_reducible rfl
    simp only [Act.put, List.setIfInBounds_toArray, List.set_cons_zero, List.set_cons_succ]
    refine wpAnyH_take (i := 5) (v := ?_) rfl (by kernel_rfl) (by kernel_rfl) (by kernel_rfl) (fun _ _ _ h => h) (Or.inl ⟨by rfl, ?_⟩) ⟨hHeld.1, hHeld.2.1, hHeld.2.2.1, hHeld.2.2.2, by go_keep⟩ ?_
    rotate_left
    · (intro w hSw; (try dsimp only at hSw); go_simp)
      try with_reducible rfl
    simp only [Act.put, List.setIfInBounds_toArray, List.set_cons_zero, List.set_cons_succ]
    refine wpAnyH_ready (rs := [8]) (by kernel_rfl) (by simp) ?_
    refine AllReadyH.cons rfl (fun K hK => ?_) AllReadyH.nil
    go_simp
    refine (c_l1Num _ _ (by omega) (by omega)).mono ?_
    rintro e _ ⟨rfl, qq, rfl⟩
    go_wp2_with fail
    refine hK.out _ _ ?_ (fun hHeld => ?_)
    · ((try dsimp only); refine ⟨?_, ?_, ?_, ?_, ?_⟩ <;> first | assumption | go_keep)
    clear hK K
    try simp only [Act.put, List.setIfInBounds_toArray, List.set_cons_zero, List.set_cons_succ]
    refine wpAnyH_take (i := 9) (v := ?_) rfl (by kernel_rfl) (by kernel_rfl) (by kernel_rfl) (fun _ _ _ h => h) (Or.inl ⟨by rfl, ?_⟩) hHeld ?_
    rotate_left
    · (intro w hSw; (try dsimp only at hSw); go_simp)
      try with_reducible rfl
    simp only [Act.put, List.setIfInBounds_toArray, List.set_cons_zero, List.set_cons_succ]
    refine wpAnyH_take (i := 10) (v := ?_) rfl (by kernel_rfl) (by kernel_rfl) (by kernel_rfl) (fun _ _ _ h => h) (Or.inl ⟨by rfl, ?_⟩) hHeld ?_
    rotate_left
    · (intro w hSw; (try dsimp only at hSw); go_simp)
      try with_reducible rfl
    simp only [Act.put, List.setIfInBounds_toArray, List.set_cons_zero, List.set_cons_succ]
    refine wpAnyH_ready (rs := [13]) (by kernel_rfl) (by simp) ?_
    refine AllReadyH.cons rfl (fun K hK => ?_) AllReadyH.nil
    go_simp
    refine (c_l1Num _ _ (by omega) (by omega)).mono ?_
    rintro e _ ⟨rfl, qq, rfl⟩
    go_wp2_with fail
    refine hK.out _ _ ?_ (fun hHeld => ?_)
    · ((try dsimp only); refine ⟨?_, ?_, ?_, ?_, ?_⟩ <;> first | assumption | go_keep)
    clear hK K
    try simp only [Act.put, List.setIfInBounds_toArray, List.set_cons_zero, List.set_cons_succ]
    refine wpAnyH_take (i := 14) (v := ?_) rfl (by kernel_rfl) (by kernel_rfl) (by kernel_rfl) (fun _ _ _ h => h) (Or.inl ⟨by rfl, ?_⟩) hHeld ?_
    rotate_left
    · (intro w hSw; (try dsimp only at hSw); go_simp)
      try with_reducible rfl
    simp only [Act.put, List.setIfInBounds_toArray, List.set_cons_zero, List.set_cons_succ]
    refine wpAnyH_take (i := 15) (v := ?_) rfl (by kernel_rfl) (by kernel_rfl) (by kernel_rfl) (fun _ _ _ h => h) (Or.inl ⟨by rfl, ?_⟩) hHeld ?_
    rotate_left
    · (intro w hSw; (try dsimp only at hSw); go_simp)
      try with_reducible rfl
    simp only [Act.put, List.setIfInBounds_toArray, List.set_cons_zero, List.set_cons_succ]
    refine wpAnyH_ready (rs := [18]) (by kernel_rfl) (by simp) ?_
    refine AllReadyH.cons rfl (fun K hK => ?_) AllReadyH.nil
    go_simp
    refine (c_l1Num _ _ (by omega) (by omega)).mono ?_
    rintro e _ ⟨rfl, qq, rfl⟩
    go_wp2_with fail
    refine hK.out _ _ ?_ (fun hHeld => ?_)
    · ((try dsimp only); refine ⟨?_, ?_, ?_, ?_, ?_⟩ <;> first | assumption | go_keep)
    clear hK K
    try simp only [Act.put, List.setIfInBounds_toArray, List.set_cons_zero, List.set_cons_succ]
    refine wpAnyH_take (i := 19) (v := ?_) rfl (by kernel_rfl) (by kernel_rfl) (by kernel_rfl) (fun _ _ _ h => h) (Or.inl ⟨by rfl, ?_⟩) hHeld ?_
    rotate_left
    · (intro w hSw; (try dsimp only at hSw); go_simp)
      try with_reducible rfl
    change wpAnyH _ _ _ _ _ _ _ (Act.put _ (some 23) _) _
    simp only [Act.put, List.setIfInBounds_toArray, List.set_cons_zero, List.set_cons_succ]
    refine wpAnyH_take (i := 20) (v := ?_) rfl (by kernel_rfl) (by kernel_rfl) (by kernel_rfl) (fun _ _ _ h => h) (Or.inl ⟨by rfl, ?_⟩) hHeld ?_
    rotate_left
    · (intro w hSw; (try dsimp only at hSw); go_simp)
      try with_reducible rfl
    change wpAnyH _ _ _ _ _ _ _ (Act.put _ (some 3) _) _
    simp only [Act.put, List.setIfInBounds_toArray, List.set_cons_zero, List.set_cons_succ]
    refine wpAnyH_done (by kernel_rfl) ?_ _
    go_wp2_with fail
    go_meet
    exact ⟨rfl, Lib.hid (below_dr ((Below.refl _ _).alloc (Nat.le_refl _) _) _)⟩
  case rest => as_aux_lemma =>
    obtain ⟨rfl, HB⟩ := hcut
    have B2 := Lib.hid (bb.out.trans (HB.out.mono bb.out.size))
    have q4 := (HB.out.cell (p := ⟨w.heap.size, 4, none⟩) hsv).trans p4
    clear p0 p1 p2 p3 p4 HB bb
    have hsd := str_size d
    by_cases hd0 : d = []
    · have HT2 : Hid (L = s6) := Lib.hid (by rw [HT.out, if_pos hd0])
      subst hd0
      have t1 := str_tl []
      have hne : (([] : List UInt8) == []) = true := rfl
      go_wp2
      go_ret
      exact ⟨ret_s (by rw [HT2.out]), B2.out⟩
    · have HT2 : Hid (L = s8) := Lib.hid (by rw [HT.out, if_neg hd0])
      have t1 := str_tl d
      have hne : (d == []) = false := beq_eq_false_iff_ne.2 hd0
      clear HT
      go_wp2
      go_ret
      exact ⟨ret_s (by rw [HT2.out]), B2.out⟩
set_option maxHeartbeats 4000000 in
theorem c_packetLine {B : Nat} (m : Nat) (n t l : Int) (d : List UInt8) (w : World) (hk : KindW w B) (hp : PowW w B) (hB : B ≤ w.heap.size) (hm : m < 6) (hn : 0 ≤ n ∧ n ≤ 65535) (ht : 0 ≤ t ∧ t ≤ 65535) (hl : 0 ≤ l ∧ l ≤ 65535) (hd : d.length ≤ 1000) :
    Calls Tryz.prog 19 #[.agg (pkC (m : Int) n t l d)] w fun e w' => e = .returned (.string (str (lineL m n t l d))) ∧ Below w.heap.size w w' := by
  have bb := Lib.hid ((Below.refl w.heap.size w).alloc (Nat.le_refl _) (.cells (pkC (m : Int) n t l d) 25))
  have K := pkAt_new (m : Int) n t l d w 25
  have lk := kwAt_len m
  have ln := (num_len hn.1 hn.2).2
  have lt := (num_len ht.1 ht.2).2
  have ll := (num_len hl.1 hl.2).2
  have HL : Hid (lineL m n t l d = kwAt m ++ [32] ++ itoa n ++ [32, 111, 102, 32] ++ itoa t ++ [45] ++ itoa l ++ (if d = [] then [] else [32] ++ d)) := Lib.hid rfl
  generalize lineL m n t l d = L at *
  have HK0 := Lib.hid (hk.1 m hm)
  have hkb := hk.2
  generalize kwAt m = kw at *
  obtain ⟨s1, e1⟩ : ∃ s1, kw ++ [32] = s1 := ⟨_, rfl⟩
  obtain ⟨s2, e2⟩ : ∃ s2, s1 ++ itoa n = s2 := ⟨_, rfl⟩
  obtain ⟨s3, e3⟩ : ∃ s3, s2 ++ [32, 111, 102, 32] = s3 := ⟨_, rfl⟩
  obtain ⟨s4, e4⟩ : ∃ s4, s3 ++ itoa t = s4 := ⟨_, rfl⟩
  obtain ⟨s5, e5⟩ : ∃ s5, s4 ++ [45] = s5 := ⟨_, rfl⟩
  obtain ⟨s6, e6⟩ : ∃ s6, s5 ++ itoa l = s6 := ⟨_, rfl⟩
  obtain ⟨s7, e7⟩ : ∃ s7, [32] ++ d = s7 := ⟨_, rfl⟩
  obtain ⟨s8, e8⟩ : ∃ s8, s6 ++ s7 = s8 := ⟨_, rfl⟩
  have l1 : s1.length = kw.length + 1 := by rw [← e1, List.length_append]; rfl
  have l2 : s2.length = s1.length + (itoa n).length := by rw [← e2, List.length_append]
  have l3 : s3.length = s2.length + 4 := by rw [← e3, List.length_append]; rfl
  have l4 : s4.length = s3.length + (itoa t).length := by rw [← e4, List.length_append]
  have l5 : s5.length = s4.length + 1 := by rw [← e5, List.length_append]; rfl
  have l6 : s6.length = s5.length + (itoa l).length := by rw [← e6, List.length_append]
  have l7 : s7.length = 1 + d.length := by rw [← e7, List.length_append]; rfl
  have l8 : s8.length = s6.length + s7.length := by rw [← e8, List.length_append]
  have a1 := fun W => run_add_str kw [32] s1 e1 (by omega) W
  have a2 := fun W => run_add_str s1 (itoa n) s2 e2 (by omega) W
  have a3 := fun W => run_add_str s2 [32, 111, 102, 32] s3 e3 (by omega) W
  have a4 := fun W => run_add_str s3 (itoa t) s4 e4 (by omega) W
  have a5 := fun W => run_add_str s4 [45] s5 e5 (by omega) W
  have a6 := fun W => run_add_str s5 (itoa l) s6 e6 (by omega) W
  have a7 := fun W => run_add_str [32] d s7 e7 (by omega) W
  have a8 := fun W => run_add_str s6 s7 s8 e8 (by omega) W
  have a1 : ∀ W, (Op.stringOp .add (str kw) ⟨#[32]⟩).run Tryz.prog W = .ok (.string (str s1)) W := a1
  have a3 : ∀ W, (Op.stringOp .add (str s2) ⟨#[32, 111, 102, 32]⟩).run Tryz.prog W = .ok (.string (str s3)) W := a3
  have a5 : ∀ W, (Op.stringOp .add (str s4) ⟨#[45]⟩).run Tryz.prog W = .ok (.string (str s5)) W := a5
  have a7 : ∀ W, (Op.stringOp .add ⟨#[32]⟩ (str d)).run Tryz.prog W = .ok (.string (str s7)) W := a7
  have HT : Hid (L = if d = [] then s6 else s8) := Lib.hid (by
    rw [HL.out, ← e8, ← e7, ← e6, ← e5, ← e4, ← e3, ← e2, ← e1]
    split <;> simp)
  obtain ⟨hn0, hn1⟩ := hn
  obtain ⟨ht0, ht1⟩ := ht
  obtain ⟨hl0, hl1⟩ := hl
  have HP := Lib.hid (hp.keep bb.out hB)
  have HKV := Lib.hid ((bb.out.cell (p := ⟨0, m, none⟩) (Nat.lt_of_lt_of_le hkb hB)).trans HK0.out)
  have hvs := bb.out.size
  clear HL e1 e2 e3 e4 e5 e6 e7 e8 l1 l2 l3 l4 l5 l6 l7 l8 lk ln lt ll hk hp HK0
  have hmi : (m : Int) < 6 := by omega
  unfold pkC at *
  go_enter Tryz.func19, Tryz.ntmps19
  obtain ⟨hsv, p0, p1, p2, p3, p4⟩ := K
  go_upto_region 1 with fail
  generalize w.alloc (.cells #[.int .i64 (m : Int), .int .i64 n, .int .i64 t, .int .i64 l, .string (str d)] 25) = v at *
  go_cut [3] from 4 to 22 (fun sx wx => sx = .string (str s6) ∧ Hid (Below v.heap.size v wx))
  case first => as_aux_lemma =>
    have CN : ∀ (x : Int) (W : World), 0 ≤ x → x ≤ 65535 → Hid (Below v.heap.size v W) → Calls Tryz.prog 43 #[.int .i64 x] W fun e W2 => e = .returned (.string (str (itoa x))) ∧ Hid (Below v.heap.size v W2) := fun x W h0 h1 b =>
      (c_itoa x W (HP.out.keep b.out (by omega)) (by omega) (by omega)).mono fun e W2 ⟨he, b2⟩ => ⟨he, Lib.hid (b.out.trans (b2.mono b.out.size))⟩
    have bk : Hid (Below v.heap.size v v) := Lib.hid (Below.refl _ _)
    have bk1 : Hid (Below v.heap.size v v.drew) := Lib.hid (Below.refl _ _).drew
    have kg := HKV.out
    have gb : 0 < v.heap.size := by omega
    have c0 : ∀ W, Hid (Below v.heap.size v W) → W.cell? ⟨w.heap.size, 0, none⟩ = some (.int .i64 (m : Int)) := fun W b => (b.out.cell (p := ⟨w.heap.size, 0, none⟩) hsv).trans p0
    have c1 : ∀ W, Hid (Below v.heap.size v W) → W.cell? ⟨w.heap.size, 1, none⟩ = some (.int .i64 n) := fun W b => (b.out.cell (p := ⟨w.heap.size, 1, none⟩) hsv).trans p1
    have c2 : ∀ W, Hid (Below v.heap.size v W) → W.cell? ⟨w.heap.size, 2, none⟩ = some (.int .i64 t) := fun W b => (b.out.cell (p := ⟨w.heap.size, 2, none⟩) hsv).trans p2
    have c3 : ∀ W, Hid (Below v.heap.size v W) → W.cell? ⟨w.heap.size, 3, none⟩ = some (.int .i64 l) := fun W b => (b.out.cell (p := ⟨w.heap.size, 3, none⟩) hsv).trans p3
    have cg : ∀ W, Hid (Below v.heap.size v W) → W.cell? ⟨0, m, none⟩ = some (.string (str kw)) := fun W b => (b.out.cell (p := ⟨0, m, none⟩) gb).trans kg
    go_region_held3 (fun W => Hid (Below v.heap.size v W) ∧ W.cell? ⟨0, m, none⟩ = some (.string (str kw)) ∧ W.cell? ⟨w.heap.size, 0, none⟩ = some (.int .i64 (m : Int)) ∧ W.cell? ⟨w.heap.size, 1, none⟩ = some (.int .i64 n) ∧ W.cell? ⟨w.heap.size, 2, none⟩ = some (.int .i64 t) ∧ W.cell? ⟨w.heap.size, 3, none⟩ = some (.int .i64 l)) (refine ⟨?_, ?_, ?_, ?_, ?_, ?_⟩ <;> first | assumption | exact cg _ (by assumption) | exact c0 _ (by assumption) | exact c1 _ (by assumption) | exact c2 _ (by assumption) | exact c3 _ (by assumption))
      (first
        | (go_at_call 43; refine (CN _ _ (by omega) (by omega) (by first | assumption | exact And.left (by assumption))).mono ?_; rintro e W2 ⟨rfl, b2⟩))
    all_goals
      go_wp2_with fail
      go_meet
      exact ⟨rfl, by first | assumption | exact And.left (by assumption)⟩
  case rest => as_aux_lemma =>
    obtain ⟨rfl, HB⟩ := hcut
    have B2 := Lib.hid (bb.out.trans (HB.out.mono bb.out.size))
    have q4 := (HB.out.cell (p := ⟨w.heap.size, 4, none⟩) hsv).trans p4
    clear p0 p1 p2 p3 p4 HB bb
    have hsd := str_size d
    by_cases hd0 : d = []
    · have HT2 : Hid (L = s6) := Lib.hid (by rw [HT.out, if_pos hd0])
      subst hd0
      have t1 := str_tl []
      have hne : (([] : List UInt8) == []) = true := rfl
      go_wp2
      go_ret
      exact ⟨ret_s (by rw [HT2.out]), B2.out⟩
    · have HT2 : Hid (L = s8) := Lib.hid (by rw [HT.out, if_neg hd0])
      have t1 := str_tl d
      have hne : (d == []) = false := beq_eq_false_iff_ne.2 hd0
      clear HT
      go_wp2
      go_ret
      exact ⟨ret_s (by rw [HT2.out]), B2.out⟩
end Go.Proofs.YtpmfaiocmgkmpaaGreatDoor
