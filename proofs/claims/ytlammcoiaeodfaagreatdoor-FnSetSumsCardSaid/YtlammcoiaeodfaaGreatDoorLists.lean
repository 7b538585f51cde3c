/- What the laws do with lists of whole numbers: copied, compared, written, read again. -/
import Derived.Test.YtlammcoiaeodfaaGreatDoorSer
import Derived.Test.YtlammcoiaeodfaaGreatDoorMem
import Derived.Deep.QuietTactic
import Derived.BigQuiet
import Derived.WalkLawsBesides
namespace Go.Proofs.YtlammcoiaeodfaaGreatDoor
open Go.RowKit
set_option linter.unusedVariables false
set_option maxRecDepth 100000

theorem int_info : (Tryz.prog.info? 3).map (fun i => (i.zero, i.size, i.bytes)) = some (some (.int .i64 0), 1, 8) := by kernel_rfl

/-- 'append(out, x)' onto a list of the call's own. -/
theorem wpList_appI (w : World) {ops : Array Oper} {rest : List Oper} {o : Oper} {a : Act} {Q : Exit → Act → World → Prop} (hg : o.guard = none) (s x : Operand)
    (ho : o.op = .call { callee := .builtin .append, args := #[s, x], argTypes := #[56, 56] }) (B : Nat) (A : Option Addr) (cap : Nat) (zs : List Int)
    (hs : a.eval s = .slice A zs.length cap) (hown : OwnI w B A cap zs) (z : Int) (ad : Addr) (hx : a.eval x = .slice (some ad) 1 1) (hz : w.cell? (ad.add 0) = some (.int .i64 z))
    (hl : zs.length ≤ 100000000) (hB : B ≤ w.heap.size)
    (h : ∀ A' cap' w', OwnI w' B A' cap' (zs ++ [z]) → Below B w w' → wpList Tryz.prog ops Q rest (a.put o.dst (.slice A' (zs.length + 1) cap')) w') : wpList Tryz.prog ops Q (o :: rest) a w := by
  obtain ⟨i0, hi, hz0, hz1, hz2⟩ := info_parts int_info
  refine wpList_append_own w hg s x 56 ho B 3 i0 (.int .i64 0) 1 8 Tryz.underlying56 hi hz0 hz1 hz2 rfl (by omega) _ zs.length (zs.map (Value.int .i64)) hs hown ad 1 1 [.int .i64 z] hx rfl ?_ ?_ (by unfold maxLen; omega) (by omega) hB ?_
  · intro j u hu
    match j, hu with
    | 0, hu => simp at hu; subst hu; exact hz
    | j + 1, hu => simp at hu
  · intro u hu
    simp at hu
    subst hu
    rfl
  · intro v' w' hown' hgrow _
    have hb : Below B w w' := (Below.refl _ _).grown hgrow hB (fun k hk => (World.ownsRow.lt hown k hk).1)
    rcases hown'.2 with ⟨_, h0⟩ | ⟨g, c, cur, rfl, _⟩
    · omega
    · refine h _ _ _ ?_ hb
      have e : zs.map (Value.int .i64) ++ [Value.int .i64 z] = (zs ++ [z]).map (Value.int .i64) := by simp
      rw [e] at hown'
      unfold OwnI
      rw [List.length_append]
      exact hown'
/-- 'append(out, ys...)' onto a list of the call's own. -/
theorem wpList_appIs (w : World) {ops : Array Oper} {rest : List Oper} {o : Oper} {a : Act} {Q : Exit → Act → World → Prop} (hg : o.guard = none) (s x : Operand)
    (ho : o.op = .call { callee := .builtin .append, args := #[s, x], argTypes := #[56, 56] }) (B : Nat) (A : Option Addr) (cap : Nat) (zs : List Int)
    (hs : a.eval s = .slice A zs.length cap) (hown : OwnI w B A cap zs) {H : Nat} (ys : List Int) (ad : Addr) (c : Nat) (hx : a.eval x = .slice (some ad) ys.length c) (hy : Ints w H (some ad) ys)
    (hl : zs.length + ys.length ≤ 100000000) (hB : B ≤ w.heap.size)
    (h : ∀ A' cap' w', OwnI w' B A' cap' (zs ++ ys) → Below B w w' → wpList Tryz.prog ops Q rest (a.put o.dst (.slice A' (zs.length + ys.length) cap')) w') : wpList Tryz.prog ops Q (o :: rest) a w := by
  obtain ⟨i0, hi, hz0, hz1, hz2⟩ := info_parts int_info
  refine wpList_append_own w hg s x 56 ho B 3 i0 (.int .i64 0) 1 8 Tryz.underlying56 hi hz0 hz1 hz2 rfl (by omega) _ zs.length (zs.map (Value.int .i64)) hs hown ad ys.length c (ys.map (Value.int .i64)) hx (by simp) ?_ ?_ (by unfold maxLen; omega) (by omega) hB ?_
  · intro j u hu
    obtain ⟨ad', e, _, hc⟩ := hy (by have := (List.getElem?_eq_some_iff.1 hu).1; omega)
    injection e with e
    subst e
    exact hc j u hu
  · intro u hu
    obtain ⟨z, _, rfl⟩ := List.mem_map.1 hu
    rfl
  · intro v' w' hown' hgrow hnil
    have hb : Below B w w' := (Below.refl _ _).grown hgrow hB (fun k hk => (World.ownsRow.lt hown k hk).1)
    have e : zs.map (Value.int .i64) ++ ys.map (Value.int .i64) = (zs ++ ys).map (Value.int .i64) := by simp
    rw [e] at hown'
    rcases hown'.2 with ⟨rfl, h0⟩ | ⟨g, c, cur, rfl, _⟩
    · have h1 : zs.length + ys.length = 0 := h0
      rw [h1] at hown' h
      exact h _ _ _ (by unfold OwnI; rw [List.length_append, h1]; exact hown') hb
    · exact h _ _ _ (by unfold OwnI; rw [List.length_append]; exact hown') hb
end Go.Proofs.YtlammcoiaeodfaaGreatDoor
