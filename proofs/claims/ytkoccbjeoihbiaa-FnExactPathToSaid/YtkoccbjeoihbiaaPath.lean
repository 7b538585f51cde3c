/- The path from the source to a node of a tree; slices.Reverse over whole numbers. -/
import Derived.Test.YtkoccbjeoihbiaaLeaf
import Derived.Shelf.RegionOpenPlain
import Derived.Deep.LoopGhost
namespace Go.Proofs.Ytkoccbjeoihbiaa
open Go.RowKit
set_option linter.unusedVariables false
set_option maxRecDepth 100000

def revAt (zs : List Int) (i t : Nat) : Int := if t < i ∨ zs.length - i ≤ t then zs.getD (zs.length - 1 - t) 0 else zs.getD t 0
def revK (zs : List Int) (i : Nat) : List Int := (List.range zs.length).map (revAt zs i)
theorem revK_len (zs : List Int) (i : Nat) : (revK zs i).length = zs.length := by simp [revK]
theorem revK_get (zs : List Int) (i t : Nat) (h : t < zs.length) : (revK zs i).getD t 0 = revAt zs i t := by simp [revK, h]
theorem revK_zero (zs : List Int) : revK zs 0 = zs := by
  refine List.ext_getElem (by simp [revK]) fun t h1 h2 => ?_
  simp only [revK, List.getElem_map, List.getElem_range, revAt]
  rw [if_neg (by omega)]
  simp [h2]
theorem revK_end (zs : List Int) (i : Nat) (h : zs.length ≤ i + i + 1) : revK zs i = zs.reverse := by
  refine List.ext_getElem (by simp [revK]) fun t h1 h2 => ?_
  have h3 : t < zs.length := by simpa using h2
  simp only [revK, List.getElem_map, List.getElem_range, revAt, List.getElem_reverse]
  by_cases hc : t < i ∨ zs.length - i ≤ t
  · rw [if_pos hc]
    simp [show zs.length - 1 - t < zs.length by omega]
  · rw [if_neg hc]
    have : zs.length - 1 - t = t := by omega
    simp [h3, this]
theorem revK_step (zs : List Int) (i j : Nat) (h : i < j) (hj : j = zs.length - 1 - i) : ((revK zs i).set i (zs.getD j 0)).set j (zs.getD i 0) = revK zs (i + 1) := by
  refine List.ext_getElem (by simp [revK]) fun t h1 h2 => ?_
  have h3 : t < zs.length := by simpa [revK] using h2
  rw [List.getElem_set, List.getElem_set]
  simp only [revK, List.getElem_map, List.getElem_range, revAt]
  by_cases e1 : j = t
  · rw [if_pos e1, if_pos (by omega), show zs.length - 1 - t = i by omega]
  · rw [if_neg e1]
    by_cases e2 : i = t
    · rw [if_pos e2, if_pos (by omega), show zs.length - 1 - t = j by omega]
    · rw [if_neg e2]
      by_cases e3 : t < i ∨ zs.length - i ≤ t
      · rw [if_pos e3, if_pos (by omega)]
      · rw [if_neg e3, if_neg (by omega)]
theorem revK_step_v (zs : List Int) (i j : Nat) (h : i < j) (hj : j = zs.length - 1 - i) : (((revK zs i).map (Value.int .i64)).set i (.int .i64 (zs.getD j 0))).set j (.int .i64 (zs.getD i 0)) = (revK zs (i + 1)).map (Value.int .i64) := by
  rw [← revK_step zs i j h hj, List.map_set, List.map_set]
set_option maxHeartbeats 1000000 in
theorem c_reverseI {B : Nat} (A : Option Addr) (cap : Nat) (zs : List Int) (w : World) (h : OwnI w B A cap zs) (hl : zs.length ≤ 100000000) :
    Calls Try.prog 154 #[.slice A zs.length cap] w fun e w' => e = .returned (.tuple #[]) ∧ OwnI w' B A cap zs.reverse ∧ Below B w w' := by
  go_enter Try.func154, Try.ntmps154
  go_wp2
  go_loopw [2, 3] (fun i q wr => ∃ k : Nat, ∃ jz : Int, i = .int .i64 k ∧ q = .int .i64 jz ∧ jz = (zs.length : Int) - 1 - k ∧ k ≤ zs.length ∧ wr.ownsRow B 3 1 (.slice A zs.length cap) zs.length ((revK zs k).map (Value.int .i64)) ∧ Below B w wr) (fun i _ _ => zs.length - (intOf i).toNat)
  case atStart => exact ⟨0, _, rfl, rfl, by simp, Nat.zero_le _, by rw [revK_zero]; exact h, Below.refl _ _⟩
  case round =>
    clear h
    obtain ⟨k, jz, rfl, rfl, hjz, hk, hown, hbel⟩ := hrel
    by_cases hlt : (k : Int) < jz
    · obtain ⟨g, rfl, hgB⟩ := own_head hown (by omega)
      obtain ⟨j, hj⟩ : ∃ j : Nat, jz = j := ⟨jz.toNat, by omega⟩
      subst hj
      have hjk : j = zs.length - 1 - k := by omega
      have hjl : j < zs.length := by omega
      have hkj : k < j := by omega
      have hkl : k < zs.length := by omega
      have HJ := Lib.hid hjz
      have hi : wr.cell? ⟨g, k, none⟩ = some (.int .i64 (zs.getD k 0)) := by
        rw [hown.cellAt k (by omega), List.getElem?_map, List.getElem?_eq_getElem (by rw [revK_len]; omega)]
        simp only [revK, List.getElem_map, List.getElem_range, revAt, Option.map]
        rw [if_neg (by omega)]
      have hjc : wr.cell? ⟨g, j, none⟩ = some (.int .i64 (zs.getD j 0)) := by
        rw [hown.cellAt j (by omega), List.getElem?_map, List.getElem?_eq_getElem (by rw [revK_len]; omega)]
        simp only [revK, List.getElem_map, List.getElem_range, revAt, Option.map]
        rw [if_neg (by omega)]
      have fi := hown.frozenAt k
      have fj := hown.frozenAt j
      have st1 := hown.drew.stored k (.int .i64 (zs.getD j 0))
      have st2 := st1.1.stored j (.int .i64 (zs.getD k 0))
      rw [revK_step_v zs k j (by omega) hjk] at st2
      have HS := Lib.hid st2.1
      have HB := Lib.hid ((hbel.drew.setCell (p := ⟨g, k, none⟩) hgB (.int .i64 (zs.getD j 0))).setCell (p := ⟨g, j, none⟩) hgB (.int .i64 (zs.getD k 0)))
      clear st1 st2 hown hbel hjk hjz
      generalize zs.getD k 0 = x at *
      generalize zs.getD j 0 = y at *
      go_wp2_with fail
      go_region
      go_wp2
      go_roundw
      case rel => exact ⟨k + 1, (j : Int) - 1, by go_num, by go_num, by have := HJ.out; omega, by omega, HS.out, HB.out⟩
      case measure => simp [intOf]; omega
    · have HE := Lib.hid (revK_end zs k (by omega))
      rw [HE.out] at hown
      have HO := Lib.hid hown
      clear hown
      go_wp2
      go_end0
      exact ⟨rfl, by unfold OwnI; simpa using HO.out, hbel⟩
/-- The nodes from y up to the source, with fuel. -/
def upF (zs : List Int) : Nat → Int → List Int
  | 0, _ => []
  | f + 1, y => if y < 0 then [] else y :: upF zs f (zs.getD y.toNat 0)
def upL (zs : List Int) (y : Int) : List Int := upF zs zs.length y
def pathL (zs : List Int) (y : Int) : List Int := (upL zs y).reverse
theorem okT_par {zs : List Int} (ht : treeB zs = true) {y : Nat} (hy : y < zs.length) : -1 ≤ zs.getD y 0 ∧ zs.getD y 0 < y := by
  have h := (treeB_t ht).2 y hy
  unfold okT at h
  by_cases e : y = 0
  · rw [if_pos e] at h
    subst e
    have h1 : zs.getD 0 0 = -1 := by simpa using h
    omega
  · rw [if_neg e] at h
    have := inR_t h
    omega
theorem upF_eq {zs : List Int} (ht : treeB zs = true) : ∀ (f g : Nat) (y : Int), y < zs.length → y < f → y < g → upF zs f y = upF zs g y
  | 0, 0, y, _, _, _ => rfl
  | 0, g + 1, y, _, h1, _ => by simp only [upF]; rw [if_pos (by omega)]
  | f + 1, 0, y, _, _, h2 => by simp only [upF]; rw [if_pos (by omega)]
  | f + 1, g + 1, y, h, h1, h2 => by
    simp only [upF]
    by_cases hy : y < 0
    · rw [if_pos hy, if_pos hy]
    · rw [if_neg hy, if_neg hy]
      have := okT_par ht (y := y.toNat) (by omega)
      rw [upF_eq ht f g _ (by omega) (by omega) (by omega)]
theorem upL_neg (zs : List Int) (y : Int) (h : y < 0) : upL zs y = [] := by
  unfold upL
  cases zs.length with
  | zero => rfl
  | succ n => simp only [upF]; rw [if_pos h]
theorem upL_step {zs : List Int} (ht : treeB zs = true) {y : Nat} (hy : y < zs.length) : upL zs y = (y : Int) :: upL zs (zs.getD y 0) := by
  unfold upL
  have h1 := okT_par ht hy
  rw [upF_eq ht zs.length (zs.length + 1) y (by omega) (by omega) (by omega)]
  simp only [upF]
  rw [if_neg (by omega), Int.toNat_natCast]
theorem upF_len (zs : List Int) : ∀ (f : Nat) (y : Int), (upF zs f y).length ≤ f
  | 0, _ => by simp [upF]
  | f + 1, y => by
    simp only [upF]
    split
    · simp
    · have := upF_len zs f (zs.getD y.toNat 0); rw [List.length_cons]; omega
theorem upL_len (zs : List Int) (y : Int) : (upL zs y).length ≤ zs.length := upF_len zs _ y
set_option maxHeartbeats 1000000 in
theorem c_path {H : Nat} (A : Option Addr) (cap : Nat) (zs : List Int) (x : Int) (w : World) (h : Ints w H A zs) (hH : H ≤ w.heap.size) (ht : treeB zs = true) (hx0 : 0 ≤ x) (hx : x < zs.length) :
    Calls Try.prog 127 #[.agg #[.slice A zs.length cap], .int .i64 x] w fun e w' => ∃ A' cap', e = .returned (.slice A' (pathL zs x).length cap') ∧ OwnI w' w.heap.size A' cap' (pathL zs x) ∧ Below w.heap.size w w' := by
  obtain ⟨X, hX⟩ : ∃ X, X = w.alloc (.cells #[.slice A zs.length cap] 51) := ⟨_, rfl⟩
  have b1 : Below w.heap.size w X := by rw [hX]; exact (Below.refl _ _).alloc (Nat.le_refl _) _
  have hlt : w.heap.size < X.heap.size := by rw [hX]; simp
  have hc : X.cell? ⟨w.heap.size, 0, none⟩ = some (.slice A zs.length cap) := by rw [hX]; exact new1_cell _ _ _
  have h1 := Lib.hid (((h.more hH).keep b1).more b1.size)
  have HX := Lib.hid hX
  have HB1 := Lib.hid b1
  have HCC := Lib.hid hc
  have HN := Lib.hid (treeB_t ht).1
  have HLX := Lib.hid (upL_len zs x)
  clear h hX b1 hc
  go_enter Try.func127, Try.ntmps127
  go_wp2
  rw [← HX.out]
  clear HX
  go_loopw [1, 5] (fun i v wr => ∃ y : Int, -1 ≤ y ∧ y < zs.length ∧ i = .int .i64 y ∧ (∃ L A' cap', v = .slice A' L.length cap' ∧ Hid (L ++ upL zs y = upL zs x) ∧ Hid (OwnI wr X.heap.size A' cap' L)) ∧ Below X.heap.size X wr) (fun i _ _ => (intOf i + 1).toNat)
  case atStart => exact ⟨x, by omega, hx, rfl, ⟨[], none, 0, rfl, Lib.hid rfl, Lib.hid (OwnI.nil _ _)⟩, Below.refl _ _⟩
  case round =>
    obtain ⟨y, hy, hyl, rfl, ⟨L, A', cap', rfl, HL, HO⟩, hbel⟩ := hrel
    have HLen := Lib.hid (show L.length ≤ 8 from by have := HL.out; have h3 := HLX.out; have h4 := HN.out; rw [← this, List.length_append] at h3; omega)
    by_cases hlt2 : 0 ≤ y
    · obtain ⟨k, rfl⟩ : ∃ k : Nat, y = k := ⟨y.toNat, by omega⟩
      have hk : k < zs.length := by omega
      obtain ⟨ad, rfl, hadb, hcz⟩ := (h1.out.keep hbel).at_ hk
      have hcb := (hbel.cell (p := ⟨w.heap.size, 0, none⟩) hlt).trans HCC.out
      have HB := Lib.hid hbel
      clear hbel
      have HS := Lib.hid (upL_step ht hk)
      have HP := okT_par ht hk
      generalize zs.getD k 0 = z at *
      obtain ⟨hp1, hp2⟩ := HP
      have cellF : ∀ W : World, Below X.heap.size wr W → W.cell? ⟨w.heap.size, 0, none⟩ = some (.slice (some ad) zs.length cap) := fun _ b => (b.cell (p := ⟨w.heap.size, 0, none⟩) hlt).trans hcb
      have cellE : ∀ W : World, Below X.heap.size wr W → W.cell? (ad.add k) = some (.int .i64 z) := fun _ b => (b.cell (p := ad.add k) (by rw [block_of_add]; exact hadb)).trans hcz
      have CF := Lib.hid cellF
      have CE := Lib.hid cellE
      clear cellF cellE hcb hcz
      go_wp2_with (at_builtin; refine wpList_appI _ rfl _ _ rfl X.heap.size A' cap' L rfl (HO.out.push _) _ _ rfl (new1_cell _ _ _) (by have := HLen.out; omega) (by have := HB.out.size; simp; omega) ?_; intro A2 cap2 w2 hown' hb'; have HBS := Lib.hid (((Below.refl _ wr).alloc HB.out.size _).trans hb'); have cf := CF.out _ HBS.out; have ce := CE.out _ HBS.out)
      have HO2 := Lib.hid hown'
      have HB2 := Lib.hid (HB.out.trans HBS.out)
      clear hown' hb' HO HB
      go_wp2
      go_roundw
      case rel => exact ⟨z, hp1, by omega, rfl, ⟨L ++ [(k : Int)], A2, cap2, by rw [List.length_append]; rfl, Lib.hid (by rw [List.append_assoc, List.singleton_append, ← HS.out]; exact HL.out), HO2⟩, HB2.out⟩
      case measure => simp [intOf]; omega
    · have HE := Lib.hid (show L = upL zs x from by have := HL.out; rw [upL_neg zs y (by omega), List.append_nil] at this; exact this)
      go_wp2_with fail
      refine (c_reverseI A' cap' L _ HO.out (by have := HLen.out; omega)).mono ?_
      rintro e w3 ⟨rfl, o3, b3⟩
      have HO3 := Lib.hid o3
      have HB3 := Lib.hid (HB1.out.trans ((hbel.trans b3).mono HB1.out.size))
      clear o3 b3
      go_wp2
      go_ret
      exact ⟨A', cap', by rw [pathL, ← HE.out, List.length_reverse]; rfl, by rw [pathL, ← HE.out]; exact HO3.out.base HB1.out.size, HB3.out⟩
set_option maxHeartbeats 1000000 in
theorem c_l6Path {H : Nat} (A : Option Addr) (cap : Nat) (zs : List Int) (x : Int) (w : World) (h : Ints w H A zs) (hH : H ≤ w.heap.size) (ht : treeB zs = true) (hx0 : 0 ≤ x) (hx : x < zs.length) :
    Calls Try.prog 126 #[.agg #[.slice A zs.length cap], .int .i64 x] w fun e w' => ∃ A' cap', e = .returned (.slice A' (pathL zs x).length cap') ∧ OwnI w' w.heap.size A' cap' (pathL zs x) ∧ Below w.heap.size w w' := by
  obtain ⟨X, hX⟩ : ∃ X, X = w.alloc (.cells #[.slice A zs.length cap] 51) := ⟨_, rfl⟩
  have b1 : Below w.heap.size w X := by rw [hX]; exact (Below.refl _ _).alloc (Nat.le_refl _) _
  have hlt : w.heap.size < X.heap.size := by rw [hX]; simp
  have hc : X.cell? ⟨w.heap.size, 0, none⟩ = some (.slice A zs.length cap) := by rw [hX]; exact new1_cell _ _ _
  have h1 := Lib.hid (((h.more hH).keep b1).more b1.size)
  have HX := Lib.hid hX
  have HB1 := Lib.hid b1
  have HCC := Lib.hid hc
  have HN := Lib.hid (treeB_t ht).1
  have HLX := Lib.hid (upL_len zs x)
  have HSZ := Lib.hid (show X.heap.size = w.heap.size + 1 from by rw [hX]; simp)
  clear h hX b1 hc
  go_enter Try.func126, Try.ntmps126
  go_wp2
  rw [← HX.out, ← HSZ.out]
  clear HX
  go_loopw [1, 5] (fun i v wr => ∃ y : Int, -1 ≤ y ∧ y < zs.length ∧ i = .int .i64 y ∧ (∃ L ad' cap', v = .slice (some ad') L.length cap' ∧ Hid ((upL zs y).reverse ++ L = pathL zs x) ∧ Hid (OwnI wr X.heap.size (some ad') cap' L)) ∧ Below X.heap.size X wr) (fun i _ _ => (intOf i + 1).toNat)
  case atStart => exact ⟨x, by omega, hx, rfl, ⟨[], _, _, rfl, Lib.hid (List.append_nil _), Lib.hid (OwnI.empty X _ (Nat.le_refl _))⟩, (Below.refl _ _).alloc (Nat.le_refl _) _⟩
  case round =>
    obtain ⟨y, hy, hyl, rfl, ⟨L, ad', cap', rfl, HL, HO⟩, hbel⟩ := hrel
    have HLen := Lib.hid (show L.length ≤ 8 from by have := HL.out; have h3 := HLX.out; have h4 := HN.out; have h5 := congrArg List.length this; simp only [pathL, List.length_append, List.length_reverse] at h5; omega)
    by_cases hlt2 : 0 ≤ y
    · obtain ⟨k, rfl⟩ : ∃ k : Nat, y = k := ⟨y.toNat, by omega⟩
      have hk : k < zs.length := by omega
      obtain ⟨ad, rfl, hadb, hcz⟩ := (h1.out.keep hbel).at_ hk
      have hcb := (hbel.cell (p := ⟨w.heap.size, 0, none⟩) hlt).trans HCC.out
      have HB := Lib.hid hbel
      clear hbel
      have HS := Lib.hid (upL_step ht hk)
      have HP := okT_par ht hk
      generalize zs.getD k 0 = z at *
      obtain ⟨hp1, hp2⟩ := HP
      have cellF : ∀ W : World, Below X.heap.size wr W → W.cell? ⟨w.heap.size, 0, none⟩ = some (.slice (some ad) zs.length cap) := fun _ b => (b.cell (p := ⟨w.heap.size, 0, none⟩) hlt).trans hcb
      have cellE : ∀ W : World, Below X.heap.size wr W → W.cell? (ad.add k) = some (.int .i64 z) := fun _ b => (b.cell (p := ad.add k) (by rw [block_of_add]; exact hadb)).trans hcz
      have CF := Lib.hid cellF
      have CE := Lib.hid cellE
      have HE := Lib.hid (show OwnI (wr.alloc (.cells #[.int .i64 (k : Int)] 3)) X.heap.size (some ⟨wr.heap.size, 0, none⟩) 1 [(k : Int)] from World.ownsRow_lit wr #[.int .i64 (k : Int)] 1 HB.out.size (by unfold maxLen; omega) rfl)
      have HI := Lib.hid (HO.out.push (.cells #[.int .i64 (k : Int)] 3)).ints
      clear cellF cellE hcb hcz
      go_wp2_with (at_builtin; refine wpList_appIs _ rfl _ _ rfl X.heap.size (some ⟨wr.heap.size, 0, none⟩) 1 [(k : Int)] rfl HE.out L ad' cap' rfl HI.out (by have := HLen.out; simp; omega) (by have := HB.out.size; simp; omega) ?_; intro A2 cap2 w2 hown' hb'; have HBS := Lib.hid (((Below.refl _ wr).alloc HB.out.size _).trans hb'); have cf := CF.out _ HBS.out; have ce := CE.out _ HBS.out)
      obtain ⟨g, rfl, _⟩ := own_head hown' (by simp)
      have HO2 := Lib.hid hown'
      have HB2 := Lib.hid (HB.out.trans HBS.out)
      clear hown' hb' HO HB HE HI
      go_wp2
      go_roundw
      case rel => exact ⟨z, hp1, by omega, rfl, ⟨[(k : Int)] ++ L, _, cap2, by rw [List.length_append]; rfl, Lib.hid (by have h5 := HL.out; rw [HS.out, List.reverse_cons, List.append_assoc] at h5; exact h5), HO2⟩, HB2.out⟩
      case measure => simp [intOf]; omega
    · have HE := Lib.hid (show L = pathL zs x from by have := HL.out; rw [upL_neg zs y (by omega)] at this; simpa using this)
      have HB3 := Lib.hid (HB1.out.trans (hbel.mono HB1.out.size))
      go_wp2
      go_ret
      exact ⟨some ad', cap', by rw [← HE.out]; rfl, by rw [← HE.out]; exact HO.out.base HB1.out.size, HB3.out⟩
def pathR (zs : List Int) (x : Int) : List Int := if nodeB zs x then pathL zs x else []
theorem pathR_len (zs : List Int) (x : Int) : (pathR zs x).length ≤ 100000 := by
  unfold pathR
  split
  · rename_i h
    have h1 := (treeB_t (nodeB_t h).1).1
    have := upL_len zs x
    unfold pathL
    rw [List.length_reverse]
    omega
  · simp
set_option maxHeartbeats 1000000 in
theorem c_specPathTo {H : Nat} (A : Option Addr) (cap : Nat) (zs : List Int) (x : Int) (w : World) (h : Ints w H A zs) (hH : H ≤ w.heap.size) (hl : zs.length ≤ 100000000) :
    Calls Try.prog 52 #[.agg #[.slice A zs.length cap], .int .i64 x] w fun e w' => ∃ A' cap', e = .returned (.tuple #[.slice A' (pathR zs x).length cap', .bool (nodeB zs x)]) ∧ OwnI w' w.heap.size A' cap' (pathR zs x) ∧ Below w.heap.size w w' := by
  obtain ⟨X, hX⟩ : ∃ X, X = w.alloc (.cells #[.slice A zs.length cap] 51) := ⟨_, rfl⟩
  have b1 : Below w.heap.size w X := by rw [hX]; exact (Below.refl _ _).alloc (Nat.le_refl _) _
  have hlt : w.heap.size < X.heap.size := by rw [hX]; simp
  have hc : X.cell? ⟨w.heap.size, 0, none⟩ = some (.slice A zs.length cap) := by rw [hX]; exact new1_cell _ _ _
  have i1 := (h.more hH).keep b1
  have C1 := Lib.hid (c_l6Node A cap zs x X i1 b1.size hl)
  have HX := Lib.hid hX
  clear h hX
  cases g0 : nodeB zs x
  · rw [show pathR zs x = [] from by simp [pathR, g0]]
    go_enter Try.func52, Try.ntmps52
    go_wp2_with fail
    rw [← HX.out]
    refine C1.out.mono ?_
    rintro e w1 ⟨rfl, b2⟩
    have HB := Lib.hid (b1.trans (b2.mono b1.size))
    have HE := Lib.hid (OwnI.empty w1 w.heap.size HB.out.size)
    clear b1 b2 hc i1
    go_wp2
    go_ret2
    exact ⟨_, _, rfl, HE.out, HB.out.alloc HB.out.size _⟩
  · rw [show pathR zs x = pathL zs x from by simp [pathR, g0]]
    have HN := Lib.hid (nodeB_t g0)
    go_enter Try.func52, Try.ntmps52
    go_wp2_with fail
    rw [← HX.out]
    refine C1.out.mono ?_
    rintro e w1 ⟨rfl, b2⟩
    have hc1 := (b2.cell (p := ⟨w.heap.size, 0, none⟩) hlt).trans hc
    have i2 := i1.keep (b2.mono b1.size)
    have HB := Lib.hid (b1.trans (b2.mono b1.size))
    clear b1 b2 hc i1
    go_wp2_with fail
    refine (c_l6Path A cap zs x _ i2 HB.out.size HN.out.1 HN.out.2.1 HN.out.2.2).mono ?_
    rintro e w2 ⟨A2, c2, rfl, o2, b3⟩
    have HO := Lib.hid (o2.base HB.out.size)
    have HB2 := Lib.hid (HB.out.trans (b3.mono HB.out.size))
    clear o2 b3 i2 hc1
    go_wp2
    go_ret2
    exact ⟨A2, c2, rfl, HO.out, HB2.out⟩
set_option maxHeartbeats 1000000 in
theorem c_implPathTo {H : Nat} (A : Option Addr) (cap : Nat) (zs : List Int) (x : Int) (w : World) (h : Ints w H A zs) (hH : H ≤ w.heap.size) (hl : zs.length ≤ 100000000) :
    Calls Try.prog 53 #[.agg #[.slice A zs.length cap], .int .i64 x] w fun e w' => ∃ A' cap', e = .returned (.tuple #[.slice A' (pathR zs x).length cap', .bool (nodeB zs x)]) ∧ OwnI w' w.heap.size A' cap' (pathR zs x) ∧ Below w.heap.size w w' := by
  obtain ⟨X, hX⟩ : ∃ X, X = (w.alloc (.cells #[.slice A zs.length cap] 51)).alloc (.cells #[.int .i64 x] 3) := ⟨_, rfl⟩
  have b0 : Below w.heap.size w (w.alloc (.cells #[.slice A zs.length cap] 51)) := (Below.refl _ _).alloc (Nat.le_refl _) _
  have b1 : Below w.heap.size w X := by rw [hX]; exact b0.alloc b0.size _
  have hlt : w.heap.size < X.heap.size := by rw [hX]; simp; omega
  have hc : X.cell? ⟨w.heap.size, 0, none⟩ = some (.slice A zs.length cap) := by
    rw [hX, World.cell?_alloc_lt _ _ _ (by simp)]
    exact new1_cell _ _ _
  have i1 := (h.more hH).keep b1
  have ix : Ints X X.heap.size (some ⟨w.heap.size + 1, 0, none⟩) [x] := by
    rw [hX]
    have := ints_new1 (w.alloc (.cells #[.slice A zs.length cap] 51)) x 3
    simp only [World.size_alloc] at this ⊢
    exact this
  have C1 := Lib.hid (c_hasNodes A cap zs (some ⟨w.heap.size + 1, 0, none⟩) 1 [x] X i1 ix b1.size (Nat.le_refl _) hl (by simp))
  rw [nodesB_one] at C1
  have HX := Lib.hid hX
  clear h hX b0 ix
  cases g0 : nodeB zs x
  · rw [show pathR zs x = [] from by simp [pathR, g0]]
    go_enter Try.func53, Try.ntmps53
    go_wp2_with fail
    rw [← HX.out]
    refine C1.out.mono ?_
    rintro e w1 ⟨rfl, b2⟩
    have HB := Lib.hid (b1.trans (b2.mono b1.size))
    clear b1 b2 hc i1
    go_wp2
    go_ret2
    exact ⟨_, _, rfl, OwnI.nil _ _, HB.out⟩
  · rw [show pathR zs x = pathL zs x from by simp [pathR, g0]]
    have HN := Lib.hid (nodeB_t g0)
    go_enter Try.func53, Try.ntmps53
    go_wp2_with fail
    rw [← HX.out]
    refine C1.out.mono ?_
    rintro e w1 ⟨rfl, b2⟩
    have hc1 := (b2.cell (p := ⟨w.heap.size, 0, none⟩) hlt).trans hc
    have i2 := i1.keep (b2.mono b1.size)
    have HB := Lib.hid (b1.trans (b2.mono b1.size))
    clear b1 b2 hc i1
    go_wp2_with fail
    refine (c_path A cap zs x _ i2 HB.out.size HN.out.1 HN.out.2.1 HN.out.2.2).mono ?_
    rintro e w2 ⟨A2, c2, rfl, o2, b3⟩
    have HO := Lib.hid (o2.base HB.out.size)
    have HB2 := Lib.hid (HB.out.trans (b3.mono HB.out.size))
    clear o2 b3 i2 hc1
    go_wp2
    go_ret2
    exact ⟨A2, c2, rfl, HO.out, HB2.out⟩
end Go.Proofs.Ytkoccbjeoihbiaa
