/- A sealed list of words: the list and its check behind it. -/
import Derived.Test.YtkoccbjeoihbiaaGoodF
namespace Go.Proofs.Ytkoccbjeoihbiaa
open Go.RowKit
set_option linter.unusedVariables false
set_option maxRecDepth 100000

def sealOk (zs : List Int) : Bool := goodB 40 65535 zs && !decide (zs.length = 40)
def sealL (zs : List Int) : List Int := if sealOk zs then zs ++ [65535 - sumW zs] else []
theorem sealL_len (zs : List Int) : (sealL zs).length ≤ 100000 := by
  unfold sealL
  split
  · rename_i h
    simp only [sealOk, Bool.and_eq_true] at h
    have := (goodB_t h.1).1
    simp
    omega
  · simp
set_option maxHeartbeats 400000 in
theorem c_specSealWords {H : Nat} (A : Option Addr) (cap : Nat) (zs : List Int) (w : World) (h : Ints w H A zs) (hH : H ≤ w.heap.size) (hl : zs.length ≤ 100000000) :
    Calls Try.prog 20 #[.slice A zs.length cap] w fun e w' => ∃ A' cap', e = .returned (.tuple #[.slice A' (sealL zs).length cap', .bool (sealOk zs)]) ∧ OwnI w' w.heap.size A' cap' (sealL zs) ∧ Below w.heap.size w w' := by
  have HE := Lib.hid (OwnI.empty w w.heap.size (Nat.le_refl _))
  have bel : Below w.heap.size w (w.alloc (.cells #[] 3)) := (Below.refl _ _).alloc (Nat.le_refl _) _
  have C1 := Lib.hid (c_l3Good A cap zs w h hl)
  cases g0 : goodB 40 65535 zs
  · rw [show sealOk zs = false from by simp [sealOk, g0], show sealL zs = [] from by simp [sealL, sealOk, g0]]
    clear h
    go_enter Try.func20, Try.ntmps20
    go_wp2_with fail
    refine C1.out.mono ?_
    rintro e w' ⟨rfl, rfl⟩
    go_wp2
    go_ret2
    exact ⟨_, _, rfl, HE.out, bel⟩
  by_cases g1 : zs.length = 40
  · rw [show sealOk zs = false from by simp [sealOk, g1], show sealL zs = [] from by simp [sealL, sealOk, g1]]
    have g2 : ((zs.length : Int) == 40) = true := by simp; omega
    clear h g1
    go_enter Try.func20, Try.ntmps20
    go_wp2_with fail
    refine C1.out.mono ?_
    rintro e w' ⟨rfl, rfl⟩
    go_wp2
    go_ret2
    exact ⟨_, _, rfl, HE.out, bel⟩
  · rw [show sealOk zs = true from by simp [sealOk, g0, g1], show sealL zs = zs ++ [65535 - sumW zs] from by simp [sealL, sealOk, g0, g1]]
    have hgl := (goodB_t g0).1
    have g2 : ((zs.length : Int) == 40) = false := by simp; omega
    have hs := sumW_all (goodB_areW g0)
    have HW := Lib.hid (goodB_areW g0)
    clear g1 HE bel
    go_enter Try.func20, Try.ntmps20
    go_wp2_with fail
    refine C1.out.mono ?_
    rintro e w' ⟨rfl, rfl⟩
    go_wp2_with fail
    refine (c_l1Own A cap zs _ h hH hl).mono ?_
    rintro e w1 ⟨A1, c1, rfl, o1, b1⟩
    have h1 := (h.more hH).keep b1
    clear h
    go_wp2_with fail
    refine (c_l3Sum A cap zs _ h1 HW.out (by omega)).mono ?_
    rintro e w' ⟨rfl, rfl⟩
    have HO := Lib.hid o1
    have HB := Lib.hid b1
    clear h1 o1 b1
    go_wp2_with (at_builtin; refine wpList_appI _ rfl _ _ rfl w.heap.size A1 c1 zs rfl (HO.out.push _) _ _ rfl (new1_cell _ _ _) (by omega) (by have := HB.out.size; simp; omega) ?_; intro A2 c2 w2 o2 b2)
    have HO2 := Lib.hid o2
    have HB2 := Lib.hid ((HB.out.alloc HB.out.size _).trans b2)
    clear o2 b2 HO HB
    go_wp2
    go_ret2
    exact ⟨A2, c2, by simp, HO2.out, HB2.out⟩
set_option maxHeartbeats 400000 in
theorem c_implSealWords {H : Nat} (A : Option Addr) (cap : Nat) (zs : List Int) (w : World) (h : Ints w H A zs) (hH : H ≤ w.heap.size) (hl : zs.length ≤ 100000000) :
    Calls Try.prog 22 #[.slice A zs.length cap] w fun e w' => ∃ A' cap', e = .returned (.tuple #[.slice A' (sealL zs).length cap', .bool (sealOk zs)]) ∧ OwnI w' w.heap.size A' cap' (sealL zs) ∧ Below w.heap.size w w' := by
  have HE := Lib.hid (OwnI.nil w w.heap.size)
  have C1 := Lib.hid (c_areWords A cap zs w h hl)
  cases g0 : goodB 40 65535 zs
  · rw [show sealOk zs = false from by simp [sealOk, g0], show sealL zs = [] from by simp [sealL, sealOk, g0]]
    clear h
    go_enter Try.func22, Try.ntmps22
    go_wp2_with fail
    refine C1.out.mono ?_
    rintro e w' ⟨rfl, rfl⟩
    go_wp2
    go_ret2
    exact ⟨_, _, rfl, HE.out, Below.refl _ _⟩
  by_cases g1 : zs.length = 40
  · rw [show sealOk zs = false from by simp [sealOk, g1], show sealL zs = [] from by simp [sealL, sealOk, g1]]
    have g2 : ((zs.length : Int) == 40) = true := by simp; omega
    clear h g1
    go_enter Try.func22, Try.ntmps22
    go_wp2_with fail
    refine C1.out.mono ?_
    rintro e w' ⟨rfl, rfl⟩
    go_wp2
    go_ret2
    exact ⟨_, _, rfl, HE.out, Below.refl _ _⟩
  · rw [show sealOk zs = true from by simp [sealOk, g0, g1], show sealL zs = zs ++ [65535 - sumW zs] from by simp [sealL, sealOk, g0, g1]]
    have hgl := (goodB_t g0).1
    have g2 : ((zs.length : Int) == 40) = false := by simp; omega
    have hs := sumW_all (goodB_areW g0)
    have HW := Lib.hid (goodB_areW g0)
    clear g1 HE
    go_enter Try.func22, Try.ntmps22
    go_wp2_with fail
    refine C1.out.mono ?_
    rintro e w' ⟨rfl, rfl⟩
    go_wp2_with fail
    refine (c_cloneI A cap zs _ h hH hl).mono ?_
    rintro e w1 ⟨A1, c1, rfl, o1, b1⟩
    have h1 := (h.more hH).keep b1
    clear h
    go_wp2_with fail
    refine (c_wordSum A cap zs _ h1 HW.out (by omega)).mono ?_
    rintro e w' ⟨rfl, rfl⟩
    have HO := Lib.hid o1
    have HB := Lib.hid b1
    clear h1 o1 b1
    go_wp2_with (at_builtin; refine wpList_appI _ rfl _ _ rfl w.heap.size A1 c1 zs rfl (HO.out.push _) _ _ rfl (new1_cell _ _ _) (by omega) (by have := HB.out.size; simp; omega) ?_; intro A2 c2 w2 o2 b2)
    have HO2 := Lib.hid o2
    have HB2 := Lib.hid ((HB.out.alloc HB.out.size _).trans b2)
    clear o2 b2 HO HB
    go_wp2
    go_ret2
    exact ⟨A2, c2, by simp, HO2.out, HB2.out⟩
end Go.Proofs.Ytkoccbjeoihbiaa
