/- Sets joined by the program: copied, sorted, merged, turned round. -/
import Derived.Test.YtlammcoiaeodfaaGreatDoorUni
import Derived.Test.YtlammcoiaeodfaaGreatDoorSortR
import Derived.Test.YtlammcoiaeodfaaGreatDoorMergeL
import Derived.Test.YtlammcoiaeodfaaGreatDoorShelf
namespace Go.Proofs.YtlammcoiaeodfaaGreatDoor
open Go.RowKit
open Go.Sort (SWO PermIn SortedIn Holds HoldsK putRow putRowK putCells mapBlock onCells flatK)
set_option linter.unusedVariables false
set_option maxRecDepth 100000

theorem OwnR.row {w : World} {B cap : Nat} {A : Option Addr} {rs : List (Int × Int)} (h : OwnR w B A cap rs) (hn : 0 < rs.length) : ∃ g cur, A = some ⟨g, 0, none⟩ ∧ B ≤ g ∧ w.heap[g]? = some (.cells cur 47 (0, 0)) ∧ rs.length ≤ cap ∧ cap ≤ maxLen ∧ cur.size = cap * 2 ∧ cur.toList.take (rs.length * 2) = rcells rs := by
  rcases h.2 with ⟨_, hz⟩ | ⟨g, cap', cur, hv, hg, hh, h1, h2, h3, h4⟩
  · omega
  · simp only [Value.slice.injEq] at hv
    obtain ⟨rfl, _, rfl⟩ := hv
    exact ⟨g, cur, rfl, hg, hh, h1, h2, h3, h4⟩
set_option maxHeartbeats 400000 in
theorem c_cloneR {H : Nat} (A : Option Addr) (cap : Nat) (rs : List (Int × Int)) (w : World) (h : Rngs w H A rs) (hH : H ≤ w.heap.size) (hl : rs.length ≤ 100000000) :
    Calls Tryz.prog 45 #[.slice A rs.length cap] w fun e w' => ∃ A' cap', e = .returned (.slice A' rs.length cap') ∧ OwnR w' w.heap.size A' cap' rs ∧ Below w.heap.size w w' := by
  have bel : Below w.heap.size w (w.alloc (.cells #[] 47)) := (Below.refl _ _).alloc (Nat.le_refl _) _
  have HI := Lib.hid ((h.more hH).keep bel)
  have HE := Lib.hid (OwnR.empty w w.heap.size (Nat.le_refl _))
  rcases A with _ | ad
  · have h0 : rs = [] := by
      rcases rs with _ | ⟨z, zs⟩
      · rfl
      · obtain ⟨ad, e, _⟩ := h (by simp [rcells])
        cases e
    subst h0
    clear h HI
    have hnil := fun W => Lib.run_eql_slice_nil (P := Tryz.prog) W 24 47 none 0 cap 0 0 Tryz.underlying24
    go_enter Tryz.func45, Tryz.ntmps45
    go_wp2
    go_ret
    exact ⟨none, 0, rfl, OwnR.nil _ _, Below.refl _ _⟩
  · clear h
    have hnil := fun W => Lib.run_eql_slice_nil (P := Tryz.prog) W 24 47 (some ad) rs.length cap 0 0 Tryz.underlying24
    go_enter Tryz.func45, Tryz.ntmps45
    go_wp2_with (at_builtin; refine wpList_appRs _ rfl _ _ rfl w.heap.size _ 0 [] rfl HE.out rs ad cap rfl HI.out (by simpa using hl) bel.size ?_; intro A' cap' w' hown' hb')
    simp only [List.nil_append] at hown'
    have HO := Lib.hid hown'
    have HB := Lib.hid (bel.trans hb')
    clear hown' hb' bel
    go_wp2
    go_ret
    exact ⟨A', cap', by simp, HO.out, HB.out⟩
set_option maxHeartbeats 400000 in
theorem c_less (x y : WR) (W : World) : Calls Tryz.prog 47 #[.agg (encR x).toArray, .agg (encR y).toArray] W fun e w' => e = .returned (.int .i64 (cfR x y)) ∧ ∃ q os', w' = Go.Sort.grow (W.drewN q) os' := by
  obtain ⟨⟨x1, x2⟩, hx⟩ := x
  obtain ⟨⟨y1, y2⟩, hy⟩ := y
  simp only at hx hy
  have hw := IntWalk.i64_in (x1 - y1) (by omega)
  show Calls Tryz.prog 47 #[.agg #[.int .i64 x1, .int .i64 x2], .agg #[.int .i64 y1, .int .i64 y2]] W fun e w' => e = .returned (.int .i64 (x1 - y1)) ∧ ∃ q os', w' = Go.Sort.grow (W.drewN q) os'
  go_enter Tryz.func47, Tryz.ntmps47
  go_wp2
  go_ret
  exact ⟨rfl, 0, _, by rw [Go.Sort.alloc_eq_grow, Go.Sort.alloc_eq_grow, Go.Sort.grow_grow]; rfl⟩
set_option maxHeartbeats 1000000 in
theorem c_sortR {B cap : Nat} {A : Option Addr} (rs : List (Int × Int)) (w : World) (h : OwnR w B A cap rs) (hw : ∀ q ∈ rs, 0 ≤ q.1 ∧ q.1 ≤ 65535) (hl : rs.length ≤ 100000000) (hB : B ≤ w.heap.size) :
    Calls Tryz.prog 46 #[.slice A rs.length cap, .func (.func 47) #[] #[]] w fun e w' => e = .returned (.tuple #[]) ∧ ∃ d, d.Perm rs ∧ Sorted1 d ∧ OwnR w' B A cap d ∧ Below B w w' := by
  rcases Nat.eq_zero_or_pos rs.length with h0 | h0
  · have e0 : rs = [] := List.eq_nil_of_length_eq_zero h0
    subst e0
    have C : Calls Tryz.prog 46 _ _ _ := AnyF.slices_SortFunc_none Tryz.sortR A cap (.func (.func 47) #[] #[]) w
    exact C.mono fun e w' ⟨he, hw'⟩ => ⟨he, [], List.Perm.refl _, List.Pairwise.nil, by rw [hw']; exact h, by rw [hw']; exact Below.refl _ _⟩
  · obtain ⟨g, cur, rfl, hg, hh, h1, h2, h3, h4⟩ := h.row h0
    obtain ⟨d, hd⟩ : ∃ d : Array WR, d = (attR rs hw).toArray := ⟨_, rfl⟩
    have hv : valR d.toList = rs := by rw [hd]; exact valR_att rs hw
    have hs : d.size = rs.length := by rw [← Array.length_toList, ← valR_length, hv]
    have hF : flatK encR 2 d = (rcells rs).toArray := by rw [flat_eq, hv]
    have hH : HoldsK encR 2 w g 0 d := by unfold HoldsK; rw [hF]; exact holds_vals hh (by rw [rcells_length]; exact h4)
    have C : Calls Tryz.prog 46 _ _ _ := AnyQ.slices_SortFunc Tryz.sortR 2 Tryz.isAgg47 Tryz.sizeOf47 encR (fun _ => rfl) (fun x v hv => by simp [encR] at hv; rcases hv with rfl | rfl <;> rfl) cfR swoR 47 #[] g 0 cap d w (enters_of Tryz.func47 (by kernel_rfl) rfl) (fun _ _ _ _ x y => c_less x y _) hH (Array.getElem?_eq_some_iff.1 hh).1 (by omega)
    rw [hs] at C
    refine C.mono ?_
    rintro e w' ⟨he, d', n, os, hp, hst, hw'⟩
    rw [← hs] at hp hst
    have hl' : (valR d'.toList).length = rs.length := by rw [valR_length, Array.length_toList, hp.1, hs]
    have e2 : sortWorldK encR 2 w g 0 n d' os = Go.Sort.grow (putRow id (Go.Sort.ahead w n) g 0 (rcells (valR d'.toList)).toArray) os := by
      unfold sortWorldK putRowK
      rw [flat_eq]
    rw [e2] at hw'
    subst hw'
    refine ⟨he, valR d'.toList, ?_, sorted_sorted hp hst, ?_, (Below.refl _ _).grown (grownBy_vals _) hB (fun k hk => by injection hk with hk; omega)⟩
    · have := perm_perm hp
      rwa [hv] at this
    · unfold OwnR
      rw [hl']
      refine ⟨by rw [rcells_length, hl'], .inr ⟨g, cap, _, rfl, hg, heap_vals _ hh, h1, h2, by simp [putCells, h3], ?_⟩⟩
      have := take_vals cur (rcells (valR d'.toList)) (by rw [rcells_length, hl', h3]; omega)
      rwa [rcells_length, hl'] at this
set_option maxHeartbeats 1000000 in
theorem c_growR (n : Nat) (w : World) (hn : n ≤ 100000000) :
    Calls Tryz.prog 48 #[.slice none 0 0, .int .i64 n] w fun e w' => ∃ A cap, e = .returned (.slice A 0 cap) ∧ OwnR w' w.heap.size A cap [] ∧ Below w.heap.size w w' := by
  obtain ⟨i0, hi, hz0, hz1, hz2⟩ := info_parts rng_info
  rcases Nat.eq_zero_or_pos n with h0 | h0
  · subst h0
    have C : Calls Tryz.prog 48 _ _ _ := Any8.slices_Grow_room Tryz.growR none 0 0 0 w (by omega) (by omega) (by omega) (by omega)
    exact C.mono fun e w' ⟨he, hw⟩ => ⟨none, 0, he, by rw [hw]; exact OwnR.nil _ _, by rw [hw]; exact Below.refl _ _⟩
  · have C : Calls Tryz.prog 48 _ _ _ := Any8.slices_Grow_grow Tryz.growR i0 (.agg #[.int .i64 0, .int .i64 0]) hi hz0 (by omega) none 0 0 n [] w (by omega) (by omega) (by rw [hz2]; omega) (by omega) (by simp) (fun _ => rfl) (fun a ha => by cases ha)
    refine C.mono fun e w' ⟨he, hw⟩ => ⟨_, _, he, ?_, ?_⟩
    · rw [hw]
      have hcap : 0 + n ≤ grownCap w (0 + n) 0 47 := grownCap_ge w (0 + n) 0 47
      exact World.ownsRow_made (base := w.heap.size) (e := 47) (size := 2) w.drew _ (grownCap w (0 + n) 0 47) (Nat.le_refl _) (grownCap_le_maxLen _ _ _ _ (by unfold maxLen; omega)) (by
        simp only [Array.size_append, size_zeroCells]
        show (0 + (0 + n - 0) * 2) + (grownCap w (0 + n) 0 47 - (0 + n)) * 2 = _
        omega)
    · rw [hw]
      exact ((Below.refl _ w).drew).alloc (Nat.le_refl _) _
end Go.Proofs.YtlammcoiaeodfaaGreatDoor
