/- What the laws do with lists of whole numbers: copied, compared, written, read again. -/
import Derived.Test.YtnbgjkblhbpjlaaDoorSer
import Derived.Test.YtnbgjkblhbpjlaaDoorMem
import Derived.Deep.QuietTactic
import Derived.BigQuiet
import Derived.WalkLawsBesides
namespace Go.Proofs.YtnbgjkblhbpjlaaDoor
open Go.RowKit
set_option linter.unusedVariables false
set_option maxRecDepth 100000

theorem int_info : (Tryd.prog.info? 3).map (fun i => (i.zero, i.size, i.bytes)) = some (some (.int .i64 0), 1, 8) := by kernel_rfl

/-- 'append(out, x)' onto a list of the call's own. -/
theorem wpList_appI (w : World) {ops : Array Oper} {rest : List Oper} {o : Oper} {a : Act} {Q : Exit → Act → World → Prop} (hg : o.guard = none) (s x : Operand)
    (ho : o.op = .call { callee := .builtin .append, args := #[s, x], argTypes := #[63, 63] }) (B : Nat) (A : Option Addr) (cap : Nat) (zs : List Int)
    (hs : a.eval s = .slice A zs.length cap) (hown : OwnI w B A cap zs) (z : Int) (ad : Addr) (hx : a.eval x = .slice (some ad) 1 1) (hz : w.cell? (ad.add 0) = some (.int .i64 z))
    (hl : zs.length ≤ 100000000) (hB : B ≤ w.heap.size)
    (h : ∀ A' cap' w', OwnI w' B A' cap' (zs ++ [z]) → Below B w w' → wpList Tryd.prog ops Q rest (a.put o.dst (.slice A' (zs.length + 1) cap')) w') : wpList Tryd.prog ops Q (o :: rest) a w := by
  obtain ⟨i0, hi, hz0, hz1, hz2⟩ := info_parts int_info
  refine wpList_append_own w hg s x 63 ho B 3 i0 (.int .i64 0) 1 8 Tryd.underlying63 hi hz0 hz1 hz2 rfl (by omega) _ zs.length (zs.map (Value.int .i64)) hs hown ad 1 1 [.int .i64 z] hx rfl ?_ ?_ (by unfold maxLen; omega) (by omega) hB ?_
  · intro j u hu
    match j, hu with
    | 0, hu => simp at hu; subst hu; exact hz
    | j + 1, hu => simp at hu
  · intro u hu
    simp at hu
    subst hu
    rfl
  · intro v' w' hown' hgrow _
    have hb : Below B w w' := (Below.refl _ _).grown hgrow hB (fun k hk => (World.ownsRow.lt hown k hk).1)
    rcases hown'.2 with ⟨_, h0⟩ | ⟨g, c, cur, rfl, _⟩
    · omega
    · refine h _ _ _ ?_ hb
      have e : zs.map (Value.int .i64) ++ [Value.int .i64 z] = (zs ++ [z]).map (Value.int .i64) := by simp
      rw [e] at hown'
      unfold OwnI
      rw [List.length_append]
      exact hown'
/-- 'append(out, ys...)' onto a list of the call's own. -/
theorem wpList_appIs (w : World) {ops : Array Oper} {rest : List Oper} {o : Oper} {a : Act} {Q : Exit → Act → World → Prop} (hg : o.guard = none) (s x : Operand)
    (ho : o.op = .call { callee := .builtin .append, args := #[s, x], argTypes := #[63, 63] }) (B : Nat) (A : Option Addr) (cap : Nat) (zs : List Int)
    (hs : a.eval s = .slice A zs.length cap) (hown : OwnI w B A cap zs) {H : Nat} (ys : List Int) (ad : Addr) (c : Nat) (hx : a.eval x = .slice (some ad) ys.length c) (hy : Ints w H (some ad) ys)
    (hl : zs.length + ys.length ≤ 100000000) (hB : B ≤ w.heap.size)
    (h : ∀ A' cap' w', OwnI w' B A' cap' (zs ++ ys) → Below B w w' → wpList Tryd.prog ops Q rest (a.put o.dst (.slice A' (zs.length + ys.length) cap')) w') : wpList Tryd.prog ops Q (o :: rest) a w := by
  obtain ⟨i0, hi, hz0, hz1, hz2⟩ := info_parts int_info
  refine wpList_append_own w hg s x 63 ho B 3 i0 (.int .i64 0) 1 8 Tryd.underlying63 hi hz0 hz1 hz2 rfl (by omega) _ zs.length (zs.map (Value.int .i64)) hs hown ad ys.length c (ys.map (Value.int .i64)) hx (by simp) ?_ ?_ (by unfold maxLen; omega) (by omega) hB ?_
  · intro j u hu
    obtain ⟨ad', e, _, hc⟩ := hy (by have := (List.getElem?_eq_some_iff.1 hu).1; omega)
    injection e with e
    subst e
    exact hc j u hu
  · intro u hu
    obtain ⟨z, _, rfl⟩ := List.mem_map.1 hu
    rfl
  · intro v' w' hown' hgrow hnil
    have hb : Below B w w' := (Below.refl _ _).grown hgrow hB (fun k hk => (World.ownsRow.lt hown k hk).1)
    have e : zs.map (Value.int .i64) ++ ys.map (Value.int .i64) = (zs ++ ys).map (Value.int .i64) := by simp
    rw [e] at hown'
    rcases hown'.2 with ⟨rfl, h0⟩ | ⟨g, c, cur, rfl, _⟩
    · have h1 : zs.length + ys.length = 0 := h0
      rw [h1] at hown' h
      exact h _ _ _ (by unfold OwnI; rw [List.length_append, h1]; exact hown') hb
    · exact h _ _ _ (by unfold OwnI; rw [List.length_append]; exact hown') hb
set_option maxHeartbeats 400000 in
/-- Two lists that are one: yes. -/
theorem c_eqIntS {H K : Nat} (A B : Option Addr) (cap cap' : Nat) (xs : List Int) (w : World) (h : Ints w H A xs) (h' : Ints w K B xs) (hH : H ≤ w.heap.size) (hK : K ≤ w.heap.size) (hl : xs.length ≤ 100000000) :
    Calls Tryd.prog 53 #[.slice A xs.length cap, .slice B xs.length cap'] w fun e w' => e = .returned (.bool true) ∧ Below w.heap.size w w' := by
  go_enter Tryd.func53, Tryd.ntmps53
  go_wp2
  go_loopw [5] (fun i wr => ∃ k : Nat, k ≤ xs.length ∧ i = .int .i64 k ∧ Below w.heap.size w wr) (fun i _ => xs.length - (intOf i).toNat)
  case atStart => exact ⟨0, Nat.zero_le _, rfl, Below.refl _ _⟩
  case round =>
    obtain ⟨k, hk, rfl, hbel⟩ := hrel
    by_cases hlt : k < xs.length
    · obtain ⟨ad, rfl, hadb, hc0⟩ := h.at_ hlt
      obtain ⟨ad', rfl, hadb', hc0'⟩ := h'.at_ hlt
      have hc : wr.cell? (ad.add k) = some (.int .i64 (xs.getD k 0)) := (hbel.cell (by rw [block_of_add]; omega)).trans hc0
      have hc' : wr.cell? (ad'.add k) = some (.int .i64 (xs.getD k 0)) := (hbel.cell (by rw [block_of_add]; omega)).trans hc0'
      have HB := Lib.hid hbel
      have hi : (k : Int) < (xs.length : Int) := by omega
      clear hbel hc0 hc0' h h'
      generalize xs.getD k 0 = x at *
      go_wp2
      go_quiet (fail)
      go_wp2
      go_roundw
      case rel => exact ⟨k + 1, by omega, by go_num, below_drewN HB.out _⟩
      case measure => simp [intOf]; omega
    · obtain rfl : k = xs.length := by omega
      go_wp2
      go_ret
      exact ⟨rfl, hbel⟩
theorem mark_step (zs : List Int) (k0 : Int) (k : Nat) (hk : k < zs.length) :
    ((seqI k0 k ++ zs.drop k).map (Value.int .i64)).set k (.int .i64 (k0 + (k : Int))) = (seqI k0 (k + 1) ++ zs.drop (k + 1)).map (Value.int .i64) := by
  have e : seqI k0 (k + 1) = seqI k0 k ++ [k0 + (k : Int)] := by simp [seqI, List.range_succ]
  rw [e, List.drop_eq_getElem_cons hk, List.map_append, List.set_append_right _ _ (by simp [seqI_length]), List.length_map, seqI_length, Nat.sub_self]
  simp only [List.map_cons, List.set_cons_zero, List.map_append, List.append_assoc, List.cons_append, List.nil_append]
set_option maxHeartbeats 400000 in
theorem c_markIntS {B : Nat} (A : Option Addr) (cap : Nat) (zs : List Int) (k0 : Int) (w : World) (h : OwnI w B A cap zs) (hl : zs.length ≤ 100000000) (h1 : 0 ≤ k0) (h2 : k0 ≤ 100000000) :
    Calls Tryd.prog 54 #[.slice A zs.length cap, .int .i64 k0] w fun e w' => e = .returned (.int .i64 (k0 + zs.length)) ∧ OwnI w' B A cap (seqI k0 zs.length) ∧ Below B w w' ∧ w'.heap.size = w.heap.size ∧ w.grownBy w' (Value.ownBlock (.slice A zs.length cap)) := by
  go_enter Tryd.func54, Tryd.ntmps54
  go_wp2
  go_loopw [5, 1] (fun i q wr => ∃ k : Nat, k ≤ zs.length ∧ i = .int .i64 k ∧ q = .int .i64 (k0 + (k : Int)) ∧ wr.ownsRow B 3 1 (.slice A zs.length cap) zs.length ((seqI k0 k ++ zs.drop k).map (Value.int .i64)) ∧ Below B w wr ∧ wr.heap.size = w.heap.size ∧ w.grownBy wr (Value.ownBlock (.slice A zs.length cap))) (fun i _ _ => zs.length - (intOf i).toNat)
  case atStart => exact ⟨0, Nat.zero_le _, rfl, by simp, by simpa [seqI, OwnI] using h, Below.refl _ _, rfl, World.grownBy.refl _ _⟩
  case round =>
    clear h
    obtain ⟨k, hk, rfl, rfl, hown, hbel, hsz, hgr⟩ := hrel
    by_cases hlt : k < zs.length
    · obtain ⟨g, rfl, hgB⟩ := own_head hown (by omega)
      obtain ⟨u, hu⟩ : ∃ u, wr.cell? ⟨g, k, none⟩ = some u := ⟨_, (hown.cellAt k (by omega)).trans (List.getElem?_eq_getElem (by have := hown.1; omega))⟩
      have hf := hown.frozenAt k
      have hst := hown.stored k (.int .i64 (k0 + (k : Int)))
      have hstg := hst.2
      rw [mark_step zs k0 k hlt] at hst
      have HST := Lib.hid hst
      have HB := Lib.hid hbel
      have HZ := Lib.hid hsz
      have HGR := Lib.hid (grown_trans hgr hstg)
      clear hst hstg hown hbel hsz hgr
      go_wp2
      go_roundw
      case rel => exact ⟨k + 1, by omega, by go_num, by go_num, HST.out.1, HB.out.setCell hgB _, by simpa [World.setCell] using HZ.out, HGR.out⟩
      case measure => simp [intOf]; omega
    · obtain rfl : k = zs.length := by omega
      simp only [List.drop_length, List.append_nil] at hown
      go_wp2
      go_ret
      exact ⟨rfl, by unfold OwnI; rw [seqI_length]; exact hown, hbel, hsz, hgr⟩
set_option maxHeartbeats 400000 in
theorem c_heldIntS {H : Nat} (A : Option Addr) (cap : Nat) (n : Nat) (k0 : Int) (w : World) (h : Ints w H A (seqI k0 n)) (hl : n ≤ 100000000) (h1 : 0 ≤ k0) (h2 : k0 ≤ 100000000) :
    Calls Tryd.prog 55 #[.slice A n cap, .int .i64 k0] w fun e w' => e = .returned (.int .i64 (k0 + n)) ∧ w = w' := by
  go_enter Tryd.func55, Tryd.ntmps55
  go_wp2
  go_loop [5, 1] (fun i q => ∃ k : Nat, k ≤ n ∧ i = .int .i64 k ∧ q = .int .i64 (k0 + (k : Int))) (fun i _ => n - (intOf i).toNat)
  case atStart => exact ⟨0, Nat.zero_le _, rfl, by simp⟩
  case round =>
    obtain ⟨k, hk, rfl, rfl⟩ := hrel
    by_cases hlt : k < n
    · obtain ⟨ad, rfl, hadb, hc0⟩ := h.at_ (k := k) (by rw [seqI_length]; exact hlt)
      rw [seqI_getD k0 n k hlt] at hc0
      clear h
      go_wp2
      go_round
      case rel => exact ⟨k + 1, by omega, by go_num, by go_num⟩
      case measure => simp [intOf]; omega
    · obtain rfl : k = n := by omega
      go_wp2
      go_ret
      exact ⟨rfl, rfl⟩
end Go.Proofs.YtnbgjkblhbpjlaaDoor
