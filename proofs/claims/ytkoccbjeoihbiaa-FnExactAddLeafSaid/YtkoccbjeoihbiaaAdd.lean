/- A tree with a leaf more. -/
import Derived.Test.YtkoccbjeoihbiaaKids
import Derived.Deep.RegionHeldLaw
import Derived.Deep.AppendLies
namespace Go.Proofs.Ytkoccbjeoihbiaa
open Go.RowKit
set_option linter.unusedVariables false
set_option maxRecDepth 100000

def addB (zs : List Int) (x : Int) : Bool := nodeB zs x && !(zs.length == 8)
def addL (zs : List Int) (x : Int) : List Int := if addB zs x then zs ++ [x] else []
def addN (zs : List Int) (x : Int) : Int := if addB zs x then zs.length else 0
theorem add_no {zs : List Int} {x : Int} (h : addB zs x = false) : addL zs x = [] ∧ addN zs x = 0 := by
  unfold addL addN
  rw [h]
  exact ⟨rfl, rfl⟩
theorem add_yes {zs : List Int} {x : Int} (h : addB zs x = true) : addL zs x = zs ++ [x] ∧ addN zs x = zs.length := by
  unfold addL addN
  rw [h]
  exact ⟨rfl, rfl⟩
theorem results_c3 {fn : Func} {a u v : Tmp} {ty : TypeId} (h : fn.results = #[.cell a ty, .tmp u, .tmp v]) (tmps : Array Value) (P : Program) (w : World) (p : Addr) (x : Value)
    (ha : tmps.getD a undef = .pointer (some p)) (hx : (loadVar ty p).run P w = .ok x w) :
    (results fn tmps).run P w = .ok (.tuple #[x, tmps.getD u undef, tmps.getD v undef]) w := by
  simp only [Array.getD_eq_getD_getElem?] at ha
  simp [results, h, ha, asAddr, hx]
theorem bcell' {B : Nat} {W w1 : World} (hb : Below B W w1) : (∀ b o, b < B → w1.cell? ⟨b, o, none⟩ = W.cell? ⟨b, o, none⟩) ∧ (∀ b o, b < B → w1.frozen? ⟨b, o, none⟩ = W.frozen? ⟨b, o, none⟩) :=
  ⟨fun b o h => by simp only [World.cell?, hb.block b h], fun b o h => by simp only [World.frozen?, hb.block b h]⟩
theorem OwnI.setOther {w : World} {B cap : Nat} {A : Option Addr} {zs : List Int} (h : OwnI w B A cap zs) (p : Addr) (hp : p.block < B) (v : Value) : OwnI (w.setCell p v) B A cap zs := by
  have hg : w.grownBy (w.setCell p v) (some p.block) := ⟨rfl, rfl, rfl, by simp [World.setCell], fun k hk hne => Below.heap_setCell _ _ _ _ (by intro e; exact hne (by rw [e]))⟩
  exact h.far (T := p.block + 1) hg (fun k hk => by injection hk with hk; omega) hp
/-- 'append(out, x)' onto a list of the call's own, at a step of a region that draws. -/
theorem step_appI (w : World) {ops : Array Oper} {o : Oper} {a : Act} {K : Act → World → Prop} {Q : Exit → Act → World → Prop} {E : Prop} (hg : o.guard = none) (s x : Operand)
    (ho : o.op = .call { callee := .builtin .append, args := #[s, x], argTypes := #[30, 30] }) (B : Nat) (A : Option Addr) (cap : Nat) (zs : List Int)
    (hs : a.eval s = .slice A zs.length cap) (hown : OwnI w B A cap zs) (z : Int) (ad : Addr) (hx : a.eval x = .slice (some ad) 1 1) (hz : w.cell? (ad.add 0) = some (.int .i64 z))
    (hl : zs.length ≤ 100000000) (hB : B ≤ w.heap.size)
    (h : ∀ A' cap' w', OwnI w' B A' cap' (zs ++ [z]) → Below B w w' → K (a.put o.dst (.slice A' (zs.length + 1) cap')) w') :
    if Region.wanted o (yielded ops a.tmps) = true then Oper.wp Try.prog o a w K Q else E := by
  have hw : Region.wanted o (yielded ops a.tmps) = true := by simp [Region.wanted, hg]
  rw [if_pos hw]
  obtain ⟨i0, hi, hz0, hz1, hz2⟩ := info_parts int_info
  refine wp_append_own w s x 30 ho B 3 i0 (.int .i64 0) 1 8 Try.underlying30 hi hz0 hz1 hz2 rfl (by omega) _ zs.length (zs.map (Value.int .i64)) hs hown ad 1 1 [.int .i64 z] hx rfl ?_ ?_ (by unfold maxLen; omega) (by omega) hB ?_
  · intro j u hu
    match j, hu with
    | 0, hu => simp at hu; subst hu; exact hz
    | j + 1, hu => simp at hu
  · intro u hu
    simp at hu
    subst hu
    rfl
  · intro v' w' hown' hgrow _
    have hb : Below B w w' := (Below.refl _ _).grown hgrow hB (fun k hk => (World.ownsRow.lt hown k hk).1)
    rcases hown'.2 with ⟨_, h0⟩ | ⟨g, c, cur, rfl, _⟩
    · omega
    · refine h _ _ _ ?_ hb
      have e : zs.map (Value.int .i64) ++ [Value.int .i64 z] = (zs ++ [z]).map (Value.int .i64) := by simp
      rw [e] at hown'
      unfold OwnI
      rw [List.length_append]
      exact hown'
theorem addL_len (zs : List Int) (x : Int) : (addL zs x).length ≤ 100000 := by
  cases h : addB zs x
  · rw [(add_no h).1]; simp
  · rw [(add_yes h).1]
    simp only [addB, Bool.and_eq_true] at h
    have := (treeB_t (nodeB_t h.1).1).1
    simp
    omega
set_option maxHeartbeats 1000000 in
theorem c_specAddLeaf {H : Nat} (A : Option Addr) (cap : Nat) (zs : List Int) (x : Int) (w : World) (h : Ints w H A zs) (hH : H ≤ w.heap.size) (hl : zs.length ≤ 100000000) :
    Calls Try.prog 42 #[.agg #[.slice A zs.length cap], .int .i64 x] w fun e w' => ∃ A' cap', e = .returned (.tuple #[.agg #[.slice A' (addL zs x).length cap'], .int .i64 (addN zs x), .bool (addB zs x)]) ∧ OwnI w' w.heap.size A' cap' (addL zs x) ∧ Below w.heap.size w w' := by
  obtain ⟨X, hX⟩ : ∃ X, X = (w.alloc (.cells #[.slice A zs.length cap] 51)).alloc (.cells #[.slice none 0 0] 51) := ⟨_, rfl⟩
  have b0 : Below w.heap.size w (w.alloc (.cells #[.slice A zs.length cap] 51)) := (Below.refl _ _).alloc (Nat.le_refl _) _
  have b1 : Below w.heap.size w X := by rw [hX]; exact b0.alloc b0.size _
  have hlt : w.heap.size < X.heap.size := by rw [hX]; simp; omega
  have hlt1 : w.heap.size + 1 < X.heap.size := by rw [hX]; simp
  have hc : X.cell? ⟨w.heap.size, 0, none⟩ = some (.slice A zs.length cap) := by
    rw [hX, World.cell?_alloc_lt _ _ _ (by simp)]
    exact new1_cell _ _ _
  have hr : X.cell? ⟨w.heap.size + 1, 0, none⟩ = some (.slice none 0 0) := by
    rw [hX]
    have := new1_cell (w.alloc (.cells #[.slice A zs.length cap] 51)) (.slice none 0 0) 51
    simp only [World.size_alloc] at this
    exact this
  have hrf : X.frozen? ⟨w.heap.size + 1, 0, none⟩ = false := by
    rw [hX]
    simp [go_sem]
  have i1 := (h.more hH).keep b1
  have C1 := Lib.hid (c_l6Node A cap zs x X i1 b1.size hl)
  have HX := Lib.hid hX
  clear h hX b0
  cases g0 : nodeB zs x
  · have hb : addB zs x = false := by simp [addB, g0]
    rw [(add_no hb).1, (add_no hb).2, hb]
    go_enter Try.func42, Try.ntmps42
    go_wp2_with fail
    rw [← HX.out]
    refine C1.out.mono ?_
    rintro e w1 ⟨rfl, b2⟩
    rw [g0]
    have HB := Lib.hid (b1.trans (b2.mono b1.size))
    have hr1 := (b2.cell (p := ⟨w.heap.size + 1, 0, none⟩) hlt1).trans hr
    have hrf1 := ((bcell b2).2 (w.heap.size + 1) 0 hlt1).trans hrf
    clear b1 b2 hc i1
    go_wp2
    refine bodyPost_ret (v := .tuple #[.agg #[.slice none 0 0], .int .i64 0, .bool false]) ?_ rfl ?_
    · rw [results_c3 (fn := Try.f42) rfl _ _ _ ⟨w.heap.size + 1, 0, none⟩ (.agg #[.slice none 0 0]) rfl]
      · rfl
      · simp [loadVar, go_sem, hr1]
    · exact ⟨none, 0, rfl, OwnI.nil _ _, HB.out.setCell (p := ⟨w.heap.size + 1, 0, none⟩) (Nat.le_succ _) _⟩
  · by_cases h8 : zs.length = 8
    · have hb : addB zs x = false := by simp [addB, h8]
      have e8 : ((zs.length : Int) == 8) = true := by rw [h8]; rfl
      rw [(add_no hb).1, (add_no hb).2, hb]
      clear h8
      go_enter Try.func42, Try.ntmps42
      go_wp2_with fail
      rw [← HX.out]
      refine C1.out.mono ?_
      rintro e w1 ⟨rfl, b2⟩
      rw [g0]
      have HB := Lib.hid (b1.trans (b2.mono b1.size))
      have hc1 := (b2.cell (p := ⟨w.heap.size, 0, none⟩) hlt).trans hc
      have hr1 := (b2.cell (p := ⟨w.heap.size + 1, 0, none⟩) hlt1).trans hr
      have hrf1 := ((bcell b2).2 (w.heap.size + 1) 0 hlt1).trans hrf
      clear b1 b2 hc hr hrf i1
      go_wp2
      refine bodyPost_ret (v := .tuple #[.agg #[.slice none 0 0], .int .i64 0, .bool false]) ?_ rfl ?_
      · rw [results_c3 (fn := Try.f42) rfl _ _ _ ⟨w.heap.size + 1, 0, none⟩ (.agg #[.slice none 0 0]) rfl]
        · rfl
        · simp [loadVar, go_sem, hr1]
      · exact ⟨none, 0, rfl, OwnI.nil _ _, HB.out.setCell (p := ⟨w.heap.size + 1, 0, none⟩) (Nat.le_succ _) _⟩
    · have hb : addB zs x = true := by simp [addB, h8, g0]
      have e8 : ((zs.length : Int) == 8) = false := beq_eq_false_iff_ne.2 (by omega)
      rw [(add_yes hb).1, (add_yes hb).2, hb]
      clear h8
      go_enter Try.func42, Try.ntmps42
      go_wp2_with fail
      rw [← HX.out]
      refine C1.out.mono ?_
      rintro e w1 ⟨rfl, b2⟩
      rw [g0]
      have HB := Lib.hid (b1.trans (b2.mono b1.size))
      have hsz := b2.size
      have hc1 := (b2.cell (p := ⟨w.heap.size, 0, none⟩) hlt).trans hc
      have hr1 := (b2.cell (p := ⟨w.heap.size + 1, 0, none⟩) hlt1).trans hr
      have hrf1 := ((bcell b2).2 (w.heap.size + 1) 0 hlt1).trans hrf
      have i2 := i1.keep (b2.mono b1.size)
      have hszX : w.heap.size + 1 < w1.heap.size := by omega
      clear b1 b2 hc hr hrf i1
      have CF := Lib.hid (fun (W : World) (b : Below X.heap.size w1 W) => (⟨(b.cell (p := ⟨w.heap.size, 0, none⟩) hlt).trans hc1, (b.cell (p := ⟨w.heap.size + 1, 0, none⟩) hlt1).trans hr1, ((bcell' b).2 (w.heap.size + 1) 0 hlt1).trans hrf1, i2.keep (b.mono (by omega)), Nat.le_trans hsz b.size, HB.out.trans (b.mono (by omega))⟩ :
        W.cell? ⟨w.heap.size, 0, none⟩ = some (.slice A zs.length cap) ∧ W.cell? ⟨w.heap.size + 1, 0, none⟩ = some (.slice none 0 0) ∧ W.frozen? ⟨w.heap.size + 1, 0, none⟩ = false ∧ Ints W w.heap.size A zs ∧ X.heap.size ≤ W.heap.size ∧ Below w.heap.size w W))
      have bD := (Below.refl X.heap.size w1).drew
      have bL := bD.alloc (Nat.le_trans hsz bD.size) (.cells #[.int .i64 x] 3)
      go_wp2_with fail
      go_region_held_law (fun W => W.cell? ⟨w.heap.size, 0, none⟩ = some (.slice A zs.length cap)) (first | assumption | go_keep)
        (first
          | (go_at_call 102; refine (c_l1Own A cap zs w1.drew (CF.out _ bD).2.2.2.1 (by have := (CF.out _ bD).2.2.2.2.1; omega) (by omega)).mono ?_; rintro e w2 ⟨A2, c2, rfl, o2, b3⟩; have b4 := bD.trans (b3.mono (CF.out _ bD).2.2.2.2.1); have hc2 := (CF.out _ b4).1; have HO := Lib.hid (o2.base (CF.out _ bD).2.2.2.2.1); have hll := new1_cell w2 (.int .i64 x) 3; have bE := b4.alloc (Nat.le_trans hsz b4.size) (.cells #[.int .i64 x] 3); have HOL := Lib.hid (HO.out.push (.cells #[.int .i64 x] 3)); clear o2)
          | (go_at_call 102; refine (c_l1Own A cap zs _ (CF.out _ bL).2.2.2.1 (by have := (CF.out _ bL).2.2.2.2.1; omega) (by omega)).mono ?_; rintro e w2 ⟨A2, c2, rfl, o2, b3⟩; have b4 := bL.trans (b3.mono (CF.out _ bL).2.2.2.2.1); have hc2 := (CF.out _ b4).1; have HO := Lib.hid (o2.base (CF.out _ bL).2.2.2.2.1); have hll := (b3.cell (p := ⟨w1.drew.heap.size, 0, none⟩) (by simp)).trans (new1_cell w1.drew (.int .i64 x) 3); have bE := b4; have HOL := HO; clear o2)
          | (refine step_appI _ (by rfl) _ _ (by rfl) X.heap.size A2 c2 zs (by rfl) HOL.out x _ (by rfl) hll (by omega) (Nat.le_trans hsz bE.size) ?_; intro A3 c3 w3 hown' hb'; have bF := bE.trans hb'; obtain ⟨hc3, hr3, hrf3, _, hs3, hB3⟩ := CF.out _ bF))
      all_goals
        have HO3 := Lib.hid (hown'.setOther ⟨w.heap.size + 1, 0, none⟩ hlt1 (.slice A3 (zs.length + 1) c3))
        have HB4 := Lib.hid (hB3.setCell (p := ⟨w.heap.size + 1, 0, none⟩) (Nat.le_succ _) (.slice A3 (zs.length + 1) c3))
        clear hown' hb' HO HOL CF bD bL bE bF b3 b4 hll hB3
        go_wp2
        refine bodyPost_ret (v := .tuple #[.agg #[.slice A3 (zs.length + 1) c3], .int .i64 zs.length, .bool true]) ?_ rfl ?_
        · rw [results_c3 (fn := Try.f42) rfl _ _ _ ⟨w.heap.size + 1, 0, none⟩ (.agg #[.slice A3 (zs.length + 1) c3]) rfl]
          · rfl
          · simp [loadVar, go_sem, hr3]
        · exact ⟨A3, c3, by rw [List.length_append]; rfl, HO3.out.base (by omega), HB4.out⟩
set_option maxHeartbeats 1000000 in
theorem c_implAddLeaf {H : Nat} (A : Option Addr) (cap : Nat) (zs : List Int) (x : Int) (w : World) (h : Ints w H A zs) (hH : H ≤ w.heap.size) (hl : zs.length ≤ 100000000) :
    Calls Try.prog 44 #[.agg #[.slice A zs.length cap], .int .i64 x] w fun e w' => ∃ A' cap', e = .returned (.tuple #[.agg #[.slice A' (addL zs x).length cap'], .int .i64 (addN zs x), .bool (addB zs x)]) ∧ OwnI w' w.heap.size A' cap' (addL zs x) ∧ Below w.heap.size w w' := by
  obtain ⟨X, hX⟩ : ∃ X, X = ((w.alloc (.cells #[.slice A zs.length cap] 51)).alloc (.cells #[.slice none 0 0] 51)).alloc (.cells #[.int .i64 x] 3) := ⟨_, rfl⟩
  have b0 : Below w.heap.size w ((w.alloc (.cells #[.slice A zs.length cap] 51)).alloc (.cells #[.slice none 0 0] 51)) := ((Below.refl _ _).alloc (Nat.le_refl _) _).alloc (by simp) _
  have b1 : Below w.heap.size w X := by rw [hX]; exact b0.alloc b0.size _
  have hlt : w.heap.size < X.heap.size := by rw [hX]; simp; omega
  have hlt1 : w.heap.size + 1 < X.heap.size := by rw [hX]; simp
  have hc : X.cell? ⟨w.heap.size, 0, none⟩ = some (.slice A zs.length cap) := by
    rw [hX, World.cell?_alloc_lt _ _ _ (by simp; omega), World.cell?_alloc_lt _ _ _ (by simp)]
    exact new1_cell _ _ _
  have hr : X.cell? ⟨w.heap.size + 1, 0, none⟩ = some (.slice none 0 0) := by
    rw [hX, World.cell?_alloc_lt _ _ _ (by simp)]
    have := new1_cell (w.alloc (.cells #[.slice A zs.length cap] 51)) (.slice none 0 0) 51
    simp only [World.size_alloc] at this
    exact this
  have hrf : X.frozen? ⟨w.heap.size + 1, 0, none⟩ = false := by
    rw [hX]
    simp [go_sem]
  have i1 := (h.more hH).keep b1
  have ix : Ints X X.heap.size (some ⟨w.heap.size + 2, 0, none⟩) [x] := by
    rw [hX]
    have := ints_new1 ((w.alloc (.cells #[.slice A zs.length cap] 51)).alloc (.cells #[.slice none 0 0] 51)) x 3
    simp only [World.size_alloc] at this ⊢
    exact this
  have C1 := Lib.hid (c_hasNodes A cap zs (some ⟨w.heap.size + 2, 0, none⟩) 1 [x] X i1 ix b1.size (Nat.le_refl _) hl (by simp))
  rw [nodesB_one] at C1
  clear ix
  have HX := Lib.hid hX
  clear h hX b0
  cases g0 : nodeB zs x
  · have hb : addB zs x = false := by simp [addB, g0]
    rw [(add_no hb).1, (add_no hb).2, hb]
    go_enter Try.func44, Try.ntmps44
    go_wp2_with fail
    rw [← HX.out]
    refine C1.out.mono ?_
    rintro e w1 ⟨rfl, b2⟩
    rw [g0]
    have HB := Lib.hid (b1.trans (b2.mono b1.size))
    have hr1 := (b2.cell (p := ⟨w.heap.size + 1, 0, none⟩) hlt1).trans hr
    have hrf1 := ((bcell b2).2 (w.heap.size + 1) 0 hlt1).trans hrf
    clear b1 b2 hc i1
    go_wp2
    refine bodyPost_ret (v := .tuple #[.agg #[.slice none 0 0], .int .i64 0, .bool false]) ?_ rfl ?_
    · rw [results_c3 (fn := Try.f44) rfl _ _ _ ⟨w.heap.size + 1, 0, none⟩ (.agg #[.slice none 0 0]) rfl]
      · rfl
      · simp [loadVar, go_sem, hr1]
    · exact ⟨none, 0, rfl, OwnI.nil _ _, HB.out.setCell (p := ⟨w.heap.size + 1, 0, none⟩) (Nat.le_succ _) _⟩
  · by_cases h8 : zs.length = 8
    · have hb : addB zs x = false := by simp [addB, h8]
      have e8 : ((zs.length : Int) == 8) = true := by rw [h8]; rfl
      rw [(add_no hb).1, (add_no hb).2, hb]
      clear h8
      go_enter Try.func44, Try.ntmps44
      go_wp2_with fail
      rw [← HX.out]
      refine C1.out.mono ?_
      rintro e w1 ⟨rfl, b2⟩
      rw [g0]
      have HB := Lib.hid (b1.trans (b2.mono b1.size))
      have hc1 := (b2.cell (p := ⟨w.heap.size, 0, none⟩) hlt).trans hc
      have hr1 := (b2.cell (p := ⟨w.heap.size + 1, 0, none⟩) hlt1).trans hr
      have hrf1 := ((bcell b2).2 (w.heap.size + 1) 0 hlt1).trans hrf
      clear b1 b2 hc hr hrf i1
      go_wp2
      refine bodyPost_ret (v := .tuple #[.agg #[.slice none 0 0], .int .i64 0, .bool false]) ?_ rfl ?_
      · rw [results_c3 (fn := Try.f44) rfl _ _ _ ⟨w.heap.size + 1, 0, none⟩ (.agg #[.slice none 0 0]) rfl]
        · rfl
        · simp [loadVar, go_sem, hr1]
      · exact ⟨none, 0, rfl, OwnI.nil _ _, HB.out.setCell (p := ⟨w.heap.size + 1, 0, none⟩) (Nat.le_succ _) _⟩
    · have hb : addB zs x = true := by simp [addB, h8, g0]
      have e8 : ((zs.length : Int) == 8) = false := beq_eq_false_iff_ne.2 (by omega)
      rw [(add_yes hb).1, (add_yes hb).2, hb]
      clear h8
      go_enter Try.func44, Try.ntmps44
      go_wp2_with fail
      rw [← HX.out]
      refine C1.out.mono ?_
      rintro e w1 ⟨rfl, b2⟩
      rw [g0]
      have HB := Lib.hid (b1.trans (b2.mono b1.size))
      have hsz := b2.size
      have hc1 := (b2.cell (p := ⟨w.heap.size, 0, none⟩) hlt).trans hc
      have hr1 := (b2.cell (p := ⟨w.heap.size + 1, 0, none⟩) hlt1).trans hr
      have hrf1 := ((bcell b2).2 (w.heap.size + 1) 0 hlt1).trans hrf
      have i2 := i1.keep (b2.mono b1.size)
      have hszX : w.heap.size + 1 < w1.heap.size := by omega
      clear b1 b2 hc hr hrf i1
      have CF := Lib.hid (fun (W : World) (b : Below X.heap.size w1 W) => (⟨(b.cell (p := ⟨w.heap.size, 0, none⟩) hlt).trans hc1, (b.cell (p := ⟨w.heap.size + 1, 0, none⟩) hlt1).trans hr1, ((bcell' b).2 (w.heap.size + 1) 0 hlt1).trans hrf1, i2.keep (b.mono (by omega)), Nat.le_trans hsz b.size, HB.out.trans (b.mono (by omega))⟩ :
        W.cell? ⟨w.heap.size, 0, none⟩ = some (.slice A zs.length cap) ∧ W.cell? ⟨w.heap.size + 1, 0, none⟩ = some (.slice none 0 0) ∧ W.frozen? ⟨w.heap.size + 1, 0, none⟩ = false ∧ Ints W w.heap.size A zs ∧ X.heap.size ≤ W.heap.size ∧ Below w.heap.size w W))
      have bD := (Below.refl X.heap.size w1).drew
      have bL := bD.alloc (Nat.le_trans hsz bD.size) (.cells #[.int .i64 x] 3)
      go_wp2_with fail
      go_region_held_law (fun W => W.cell? ⟨w.heap.size, 0, none⟩ = some (.slice A zs.length cap)) (first | assumption | go_keep)
        (first
          | (go_at_call 105; refine (c_cloneI A cap zs w1.drew (CF.out _ bD).2.2.2.1 (by have := (CF.out _ bD).2.2.2.2.1; omega) (by omega)).mono ?_; rintro e w2 ⟨A2, c2, rfl, o2, b3⟩; have b4 := bD.trans (b3.mono (CF.out _ bD).2.2.2.2.1); have hc2 := (CF.out _ b4).1; have HO := Lib.hid (o2.base (CF.out _ bD).2.2.2.2.1); have hll := new1_cell w2 (.int .i64 x) 3; have bE := b4.alloc (Nat.le_trans hsz b4.size) (.cells #[.int .i64 x] 3); have HOL := Lib.hid (HO.out.push (.cells #[.int .i64 x] 3)); clear o2)
          | (go_at_call 105; refine (c_cloneI A cap zs _ (CF.out _ bL).2.2.2.1 (by have := (CF.out _ bL).2.2.2.2.1; omega) (by omega)).mono ?_; rintro e w2 ⟨A2, c2, rfl, o2, b3⟩; have b4 := bL.trans (b3.mono (CF.out _ bL).2.2.2.2.1); have hc2 := (CF.out _ b4).1; have HO := Lib.hid (o2.base (CF.out _ bL).2.2.2.2.1); have hll := (b3.cell (p := ⟨w1.drew.heap.size, 0, none⟩) (by simp)).trans (new1_cell w1.drew (.int .i64 x) 3); have bE := b4; have HOL := HO; clear o2)
          | (refine step_appI _ (by rfl) _ _ (by rfl) X.heap.size A2 c2 zs (by rfl) HOL.out x _ (by rfl) hll (by omega) (Nat.le_trans hsz bE.size) ?_; intro A3 c3 w3 hown' hb'; have bF := bE.trans hb'; obtain ⟨hc3, hr3, hrf3, _, hs3, hB3⟩ := CF.out _ bF))
      all_goals
        have HO3 := Lib.hid (hown'.setOther ⟨w.heap.size + 1, 0, none⟩ hlt1 (.slice A3 (zs.length + 1) c3))
        have HB4 := Lib.hid (hB3.setCell (p := ⟨w.heap.size + 1, 0, none⟩) (Nat.le_succ _) (.slice A3 (zs.length + 1) c3))
        clear hown' hb' HO HOL CF bD bL bE bF b3 b4 hll hB3
        go_wp2
        refine bodyPost_ret (v := .tuple #[.agg #[.slice A3 (zs.length + 1) c3], .int .i64 zs.length, .bool true]) ?_ rfl ?_
        · rw [results_c3 (fn := Try.f44) rfl _ _ _ ⟨w.heap.size + 1, 0, none⟩ (.agg #[.slice A3 (zs.length + 1) c3]) rfl]
          · rfl
          · simp [loadVar, go_sem, hr3]
        · exact ⟨A3, c3, by rw [List.length_append]; rfl, HO3.out.base (by omega), HB4.out⟩
end Go.Proofs.Ytkoccbjeoihbiaa
