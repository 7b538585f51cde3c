/- Lists of ranges of the call's own: kept, appended to. -/
import Derived.Test.YtlammcoiaeodfaaGreatDoorRngs
import Derived.Test.YtlammcoiaeodfaaGreatDoorLists
import Derived.Deep.RegionHeldLaw
import Derived.Deep.RegionHeld3
import Derived.Deep.AppendLies
namespace Go.Proofs.YtlammcoiaeodfaaGreatDoor
open Go.RowKit
set_option linter.unusedVariables false
set_option maxRecDepth 100000

/-- A range in a box. -/
structure Rb (w : World) (b : Nat) (x y : Int) : Prop where
  inside : b < w.heap.size
  free0 : w.frozen? ⟨b, 0, none⟩ = false
  free1 : w.frozen? ⟨b, 1, none⟩ = false
  c0 : w.cell? ⟨b, 0, none⟩ = some (.int .i64 x)
  c1 : w.cell? ⟨b, 1, none⟩ = some (.int .i64 y)
theorem Rb.new (x y : Int) (w : World) (t : TypeId) : Rb (w.alloc (.cells #[.int .i64 x, .int .i64 y] t)) w.heap.size x y := by
  refine ⟨by simp, ?_, ?_, ?_, ?_⟩ <;> simp [go_sem]
theorem Rb.keep {w w' : World} {b H : Nat} {x y : Int} (h : Rb w b x y) (k : Below H w w') (hb : b < H) : Rb w' b x y :=
  ⟨Nat.lt_of_lt_of_le h.inside k.size, (k.frozen (p := ⟨b, 0, none⟩) hb).trans h.free0, (k.frozen (p := ⟨b, 1, none⟩) hb).trans h.free1, (k.cell (p := ⟨b, 0, none⟩) hb).trans h.c0, (k.cell (p := ⟨b, 1, none⟩) hb).trans h.c1⟩
theorem Rb.drewN {w : World} {b : Nat} {x y : Int} (h : Rb w b x y) (q : Nat) : Rb (w.drewN q) b x y := ⟨h.inside, h.free0, h.free1, h.c0, h.c1⟩
theorem Rb.drew {w : World} {b : Nat} {x y : Int} (h : Rb w b x y) : Rb w.drew b x y := ⟨h.inside, h.free0, h.free1, h.c0, h.c1⟩
theorem Rb.push {w : World} {b : Nat} {x y : Int} (h : Rb w b x y) (o : Obj) : Rb (w.alloc o) b x y := h.keep ((Below.refl w.heap.size w).alloc (Nat.le_refl _) o) h.inside
theorem Rb.set {w : World} {b : Nat} {x y : Int} (h : Rb w b x y) (x' y' : Int) : Rb ((w.setCell ⟨b, 0, none⟩ (.int .i64 x')).setCell ⟨b, 1, none⟩ (.int .i64 y')) b x' y' := by
  refine ⟨by rw [World.size_setCell, World.size_setCell]; exact h.inside, by rw [World.frozen?_setCell, World.frozen?_setCell]; exact h.free0, by rw [World.frozen?_setCell, World.frozen?_setCell]; exact h.free1, ?_, ?_⟩
  · exact (World.cell?_setCell_other _ ⟨b, 1, none⟩ ⟨b, 0, none⟩ _ (by simp)).trans (World.cell?_setCell_same w ⟨b, 0, none⟩ _ h.c0)
  · exact World.cell?_setCell_same _ ⟨b, 1, none⟩ _ ((World.cell?_setCell_other w ⟨b, 0, none⟩ ⟨b, 1, none⟩ _ (by simp)).trans h.c1)
theorem two_cells (x y : Value) (w : World) (t : TypeId) : (w.alloc (.cells #[x, y] t)).cell? ((⟨w.heap.size, 0, none⟩ : Addr).add 0) = some x ∧ (w.alloc (.cells #[x, y] t)).cell? ((⟨w.heap.size, 0, none⟩ : Addr).add 1) = some y := by
  rw [add_lit, add_lit]
  constructor <;> simp [go_sem]
theorem two_cells_at (x y : Value) (w : World) (t : TypeId) (n : Nat) (hn : w.heap.size = n) : (w.alloc (.cells #[x, y] t)).cell? ((⟨n, 0, none⟩ : Addr).add 0) = some x ∧ (w.alloc (.cells #[x, y] t)).cell? ((⟨n, 0, none⟩ : Addr).add 1) = some y := by
  subst hn
  exact two_cells x y w t
theorem below_dw {B : Nat} {a w : World} (h : Below B a w) (n : Nat) : Below B a (w.drewN n) := ⟨h.os, h.tape, h.output, h.size, h.block⟩

theorem OwnR.keep {w w' : World} {B cap : Nat} {A : Option Addr} {rs : List (Int × Int)} (h : OwnR w B A cap rs) (k : Below w.heap.size w w') : OwnR w' B A cap rs :=
  World.ownsRow.kept h (grownBy_of_below k) (by cases A <;> simp [Value.ownBlock])
theorem OwnR.base {w : World} {B B' cap : Nat} {A : Option Addr} {rs : List (Int × Int)} (h : OwnR w B A cap rs) (hb : B' ≤ B) : OwnR w B' A cap rs := own_base h hb
theorem OwnR.nil (w : World) (B : Nat) : OwnR w B none 0 [] := World.ownsRow_nil w B _ 2
theorem OwnR.push {w : World} {B cap : Nat} {A : Option Addr} {rs : List (Int × Int)} (h : OwnR w B A cap rs) (o : Obj) : OwnR (w.alloc o) B A cap rs := World.ownsRow.alloc h o
theorem OwnR.drewN {w : World} {B cap : Nat} {A : Option Addr} {rs : List (Int × Int)} (h : OwnR w B A cap rs) (q : Nat) : OwnR (w.drewN q) B A cap rs := h
theorem OwnR.drew {w : World} {B cap : Nat} {A : Option Addr} {rs : List (Int × Int)} (h : OwnR w B A cap rs) : OwnR w.drew B A cap rs := h
theorem OwnR.low {w : World} {B cap : Nat} {A : Option Addr} {rs : List (Int × Int)} (h : OwnR w B A cap rs) {a : Addr} (ha : a.block < B) (u : Value) : OwnR (w.setCell a u) B A cap rs := ownsRow_setCell_below h ha u
theorem OwnR.top {w : World} {B cap : Nat} {A : Option Addr} {rs : List (Int × Int)} (h : OwnR w B A cap rs) : ∀ k, Value.ownBlock (.slice A rs.length cap) = some k → k < w.heap.size := fun k hk => (World.ownsRow.lt h k hk).2
theorem OwnR.empty (w : World) (B : Nat) (hB : B ≤ w.heap.size) : OwnR (w.alloc (.cells #[] 47)) B (some ⟨w.heap.size, 0, none⟩) 0 [] := World.ownsRow_lit w #[] 0 hB (by unfold maxLen; omega) rfl
theorem OwnR.lit1 (w : World) (B : Nat) (a b : Int) (hB : B ≤ w.heap.size) : OwnR (w.alloc (.cells #[.int .i64 a, .int .i64 b] 47)) B (some ⟨w.heap.size, 0, none⟩) 1 [(a, b)] :=
  World.ownsRow_lit (e := 47) (size := 2) w #[.int .i64 a, .int .i64 b] 1 hB (by unfold maxLen; omega) rfl
theorem OwnR.far {w w' : World} {B cap T : Nat} {A : Option Addr} {rs : List (Int × Int)} {row : Option Nat} (h : OwnR w B A cap rs) (hg : w.grownBy w' row) (ht : ∀ k, row = some k → k < T) (hT : T ≤ B) : OwnR w' B A cap rs := by
  refine World.ownsRow.kept h hg ?_
  cases hv : Value.ownBlock (.slice A rs.length cap) with
  | none => exact .inl rfl
  | some k =>
    right
    intro e
    have h1 := ht k e.symm
    have h2 := (World.ownsRow.lt h k hv).1
    omega
/-- 'append(out, r)' onto a list of the call's own. -/
theorem wpList_appR (w : World) {ops : Array Oper} {rest : List Oper} {o : Oper} {a : Act} {Q : Exit → Act → World → Prop} (hg : o.guard = none) (s x : Operand)
    (ho : o.op = .call { callee := .builtin .append, args := #[s, x], argTypes := #[24, 24] }) (B : Nat) (A : Option Addr) (cap : Nat) (rs : List (Int × Int))
    (hs : a.eval s = .slice A rs.length cap) (hown : OwnR w B A cap rs) (r : Int × Int) (ad : Addr) (hx : a.eval x = .slice (some ad) 1 1) (hz : w.cell? (ad.add 0) = some (.int .i64 r.1)) (hz' : w.cell? (ad.add 1) = some (.int .i64 r.2))
    (hl : rs.length ≤ 100000000) (hB : B ≤ w.heap.size)
    (h : ∀ A' cap' w', OwnR w' B A' cap' (rs ++ [r]) → Below B w w' → wpList Tryz.prog ops Q rest (a.put o.dst (.slice A' (rs.length + 1) cap')) w') : wpList Tryz.prog ops Q (o :: rest) a w := by
  obtain ⟨i0, hi, hz0, hz1, hz2⟩ := info_parts rng_info
  refine wpList_append_own w hg s x 24 ho B 47 i0 (.agg #[.int .i64 0, .int .i64 0]) 2 16 Tryz.underlying24 hi hz0 hz1 hz2 rfl (by omega) _ rs.length (rcells rs) hs hown ad 1 1 [.int .i64 r.1, .int .i64 r.2] hx rfl ?_ ?_ (by unfold maxLen; omega) (by omega) hB ?_
  · intro j u hu
    match j, hu with
    | 0, hu => simp at hu; subst hu; exact hz
    | 1, hu => simp at hu; subst hu; exact hz'
    | j + 2, hu => simp at hu
  · intro u hu
    simp at hu
    rcases hu with rfl | rfl <;> rfl
  · intro v' w' hown' hgrow _
    have hb : Below B w w' := (Below.refl _ _).grown hgrow hB (fun k hk => (World.ownsRow.lt hown k hk).1)
    rcases hown'.2 with ⟨_, h0⟩ | ⟨g, c, cur, rfl, _⟩
    · omega
    · refine h _ _ _ ?_ hb
      have e : rcells rs ++ [Value.int .i64 r.1, .int .i64 r.2] = rcells (rs ++ [r]) := by rw [rcells_append]; rfl
      rw [e] at hown'
      unfold OwnR
      rw [List.length_append]
      exact hown'
/-- 'append(out, r)' onto a list of the call's own, and what else has turned: nothing but that list's block. -/
theorem wpList_appRG (w : World) {ops : Array Oper} {rest : List Oper} {o : Oper} {a : Act} {Q : Exit → Act → World → Prop} (hg : o.guard = none) (s x : Operand)
    (ho : o.op = .call { callee := .builtin .append, args := #[s, x], argTypes := #[24, 24] }) (B : Nat) (A : Option Addr) (cap : Nat) (rs : List (Int × Int))
    (hs : a.eval s = .slice A rs.length cap) (hown : OwnR w B A cap rs) (r : Int × Int) (ad : Addr) (hx : a.eval x = .slice (some ad) 1 1) (hz : w.cell? (ad.add 0) = some (.int .i64 r.1)) (hz' : w.cell? (ad.add 1) = some (.int .i64 r.2))
    (hl : rs.length ≤ 100000000) (hB : B ≤ w.heap.size)
    (h : ∀ A' cap' w', OwnR w' B A' cap' (rs ++ [r]) → Below B w w' → w.grownBy w' (Value.ownBlock (.slice A rs.length cap)) → wpList Tryz.prog ops Q rest (a.put o.dst (.slice A' (rs.length + 1) cap')) w') : wpList Tryz.prog ops Q (o :: rest) a w := by
  obtain ⟨i0, hi, hz0, hz1, hz2⟩ := info_parts rng_info
  refine wpList_append_own w hg s x 24 ho B 47 i0 (.agg #[.int .i64 0, .int .i64 0]) 2 16 Tryz.underlying24 hi hz0 hz1 hz2 rfl (by omega) _ rs.length (rcells rs) hs hown ad 1 1 [.int .i64 r.1, .int .i64 r.2] hx rfl ?_ ?_ (by unfold maxLen; omega) (by omega) hB ?_
  · intro j u hu
    match j, hu with
    | 0, hu => simp at hu; subst hu; exact hz
    | 1, hu => simp at hu; subst hu; exact hz'
    | j + 2, hu => simp at hu
  · intro u hu
    simp at hu
    rcases hu with rfl | rfl <;> rfl
  · intro v' w' hown' hgrow _
    have hb : Below B w w' := (Below.refl _ _).grown hgrow hB (fun k hk => (World.ownsRow.lt hown k hk).1)
    rcases hown'.2 with ⟨_, h0⟩ | ⟨g, c, cur, rfl, _⟩
    · omega
    · refine h _ _ _ ?_ hb hgrow
      have e : rcells rs ++ [Value.int .i64 r.1, .int .i64 r.2] = rcells (rs ++ [r]) := by rw [rcells_append]; rfl
      rw [e] at hown'
      unfold OwnR
      rw [List.length_append]
      exact hown'
/-- 'append(out, qs...)' onto a list of the call's own. -/
theorem wpList_appRs (w : World) {ops : Array Oper} {rest : List Oper} {o : Oper} {a : Act} {Q : Exit → Act → World → Prop} (hg : o.guard = none) (s x : Operand)
    (ho : o.op = .call { callee := .builtin .append, args := #[s, x], argTypes := #[24, 24] }) (B : Nat) (A : Option Addr) (cap : Nat) (rs : List (Int × Int))
    (hs : a.eval s = .slice A rs.length cap) (hown : OwnR w B A cap rs) {H : Nat} (qs : List (Int × Int)) (ad : Addr) (c : Nat) (hx : a.eval x = .slice (some ad) qs.length c) (hy : Rngs w H (some ad) qs)
    (hl : rs.length + qs.length ≤ 100000000) (hB : B ≤ w.heap.size)
    (h : ∀ A' cap' w', OwnR w' B A' cap' (rs ++ qs) → Below B w w' → wpList Tryz.prog ops Q rest (a.put o.dst (.slice A' (rs.length + qs.length) cap')) w') : wpList Tryz.prog ops Q (o :: rest) a w := by
  obtain ⟨i0, hi, hz0, hz1, hz2⟩ := info_parts rng_info
  refine wpList_append_own w hg s x 24 ho B 47 i0 (.agg #[.int .i64 0, .int .i64 0]) 2 16 Tryz.underlying24 hi hz0 hz1 hz2 rfl (by omega) _ rs.length (rcells rs) hs hown ad qs.length c (rcells qs) hx (rcells_length qs) ?_ ?_ (by unfold maxLen; omega) (by omega) hB ?_
  · intro j u hu
    obtain ⟨ad', e, _, hc⟩ := hy (by have := (List.getElem?_eq_some_iff.1 hu).1; omega)
    injection e with e
    subst e
    exact hc j u hu
  · intro u hu
    obtain ⟨q, _, hq⟩ := List.mem_flatMap.1 hu
    simp at hq
    rcases hq with rfl | rfl <;> rfl
  · intro v' w' hown' hgrow hnil
    have hb : Below B w w' := (Below.refl _ _).grown hgrow hB (fun k hk => (World.ownsRow.lt hown k hk).1)
    rw [← rcells_append] at hown'
    rcases hown'.2 with ⟨rfl, h0⟩ | ⟨g, c, cur, rfl, _⟩
    · have h1 : rs.length + qs.length = 0 := h0
      rw [h1] at hown' h
      exact h _ _ _ (by unfold OwnR; rw [List.length_append, h1]; exact hown') hb
    · exact h _ _ _ (by unfold OwnR; rw [List.length_append]; exact hown') hb
theorem run_app_none (A : Option Addr) (n c c2 : Nat) (ty : TypeId) (W : World) (h : n ≤ c) : (Builtin.append_ #[24, 24] ty #[.slice A n c, .slice none 0 c2]).run Tryz.prog W = .ok (.slice A n c) W := by
  obtain ⟨i0, hi, hz0, hz1, hz2⟩ := info_parts rng_info
  cases A <;> simp [Builtin.append_, run_underlying Tryz.underlying24, sizeOf, typeInfo, hi, Builtin.lenOf, Builtin.firstCells, h, storeCells]
theorem OwnR.cap_le {w : World} {B cap : Nat} {A : Option Addr} {rs : List (Int × Int)} (h : OwnR w B A cap rs) : rs.length ≤ cap := by
  rcases h.2 with ⟨_, hz⟩ | ⟨g, cap', cur, hv, hg, hh, h1, h2, h3, h4⟩
  · omega
  · simp only [Value.slice.injEq] at hv
    omega
/-- 'append(out, qs...)' where qs may be nil. -/
theorem wpList_appRz (w : World) {ops : Array Oper} {rest : List Oper} {o : Oper} {a : Act} {Q : Exit → Act → World → Prop} (hg : o.guard = none) (s x : Operand)
    (ho : o.op = .call { callee := .builtin .append, args := #[s, x], argTypes := #[24, 24] }) (B : Nat) (A : Option Addr) (cap : Nat) (rs : List (Int × Int))
    (hs : a.eval s = .slice A rs.length cap) (hown : OwnR w B A cap rs) {H : Nat} (qs : List (Int × Int)) (A2 : Option Addr) (c : Nat) (hx : a.eval x = .slice A2 qs.length c) (hy : Rngs w H A2 qs)
    (hl : rs.length + qs.length ≤ 100000000) (hB : B ≤ w.heap.size)
    (h : ∀ A' cap' w', OwnR w' B A' cap' (rs ++ qs) → Below B w w' → wpList Tryz.prog ops Q rest (a.put o.dst (.slice A' (rs.length + qs.length) cap')) w') : wpList Tryz.prog ops Q (o :: rest) a w := by
  cases A2 with
  | some ad => exact wpList_appRs w hg s x ho B A cap rs hs hown qs ad c hx hy hl hB h
  | none =>
    have h0 : qs = [] := by
      rcases qs with _ | ⟨z, zs⟩
      · rfl
      · obtain ⟨ad, e, _⟩ := hy (by simp [rcells])
        cases e
    subst h0
    refine wpList_plain hg fun _ hK => ?_
    have hr := run_app_none A rs.length cap c o.type w hown.cap_le
    unfold Oper.wp execOp
    simp only [ho, resolve, invoke, builtin, Sem.run_bind, Sem.run_pure, Result.andThen_ok, List.map_toArray, List.map_cons, List.map_nil, hs, hx, List.length_nil, hr]
    exact hK _ _ (h A cap w (by simpa using hown) (Below.refl _ _))
/-- The same in a region that draws its order. -/
theorem step_appR (w : World) {ops : Array Oper} {o : Oper} {a : Act} {K : Act → World → Prop} {Q : Exit → Act → World → Prop} {E : Prop} (hg : o.guard = none) (s x : Operand)
    (ho : o.op = .call { callee := .builtin .append, args := #[s, x], argTypes := #[24, 24] }) (B : Nat) (A : Option Addr) (cap : Nat) (rs : List (Int × Int))
    (hs : a.eval s = .slice A rs.length cap) (hown : OwnR w B A cap rs) (r : Int × Int) (ad : Addr) (hx : a.eval x = .slice (some ad) 1 1) (hz : w.cell? (ad.add 0) = some (.int .i64 r.1)) (hz' : w.cell? (ad.add 1) = some (.int .i64 r.2))
    (hl : rs.length ≤ 100000000) (hB : B ≤ w.heap.size)
    (h : ∀ A' cap' w', OwnR w' B A' cap' (rs ++ [r]) → Below B w w' → K (a.put o.dst (.slice A' (rs.length + 1) cap')) w') :
    if Region.wanted o (yielded ops a.tmps) = true then Oper.wp Tryz.prog o a w K Q else E := by
  have hw : Region.wanted o (yielded ops a.tmps) = true := by simp [Region.wanted, hg]
  rw [if_pos hw]
  obtain ⟨i0, hi, hz0, hz1, hz2⟩ := info_parts rng_info
  refine wp_append_own w s x 24 ho B 47 i0 (.agg #[.int .i64 0, .int .i64 0]) 2 16 Tryz.underlying24 hi hz0 hz1 hz2 rfl (by omega) _ rs.length (rcells rs) hs hown ad 1 1 [.int .i64 r.1, .int .i64 r.2] hx rfl ?_ ?_ (by unfold maxLen; omega) (by omega) hB ?_
  · intro j u hu
    match j, hu with
    | 0, hu => simp at hu; subst hu; exact hz
    | 1, hu => simp at hu; subst hu; exact hz'
    | j + 2, hu => simp at hu
  · intro u hu
    simp at hu
    rcases hu with rfl | rfl <;> rfl
  · intro v' w' hown' hgrow _
    have hb : Below B w w' := (Below.refl _ _).grown hgrow hB (fun k hk => (World.ownsRow.lt hown k hk).1)
    rcases hown'.2 with ⟨_, h0⟩ | ⟨g, c, cur, rfl, _⟩
    · omega
    · refine h _ _ _ ?_ hb
      have e : rcells rs ++ [Value.int .i64 r.1, .int .i64 r.2] = rcells (rs ++ [r]) := by rw [rcells_append]; rfl
      rw [e] at hown'
      unfold OwnR
      rw [List.length_append]
      exact hown'
end Go.Proofs.YtlammcoiaeodfaaGreatDoor
