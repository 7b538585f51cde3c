/- The exported functions that sum a list of words: what each returns, the program's and the reference's alike. -/
import Derived.Test.YtkoccbjeoihbiaaGood
namespace Go.Proofs.Ytkoccbjeoihbiaa
open Go.RowKit
set_option linter.unusedVariables false

theorem sumW_all {zs : List Int} (h : AreW zs) : 0 ≤ sumW zs ∧ sumW zs ≤ 65535 := by
  have := sumW_rng h zs.length (Nat.le_refl _)
  rwa [List.take_length] at this
def wordSumR (zs : List Int) : Int := if goodB 40 65535 zs then sumW zs else 0
theorem c_implWordSum {H : Nat} (A : Option Addr) (cap : Nat) (zs : List Int) (w : World) (h : Ints w H A zs) (hl : zs.length ≤ 100000000) :
    Calls Try.prog 59 #[.slice A zs.length cap] w fun e w' => e = .returned (.tuple #[.int .i64 (wordSumR zs), .bool (goodB 40 65535 zs)]) ∧ w = w' := by
  have C1 := Lib.hid (c_areWords A cap zs w h hl)
  cases g0 : goodB 40 65535 zs
  · rw [show wordSumR zs = 0 from by simp [wordSumR, g0]]
    clear h
    go_enter Try.func59, Try.ntmps59
    go_wp2_with fail
    refine C1.out.mono ?_
    rintro e w' ⟨rfl, rfl⟩
    go_wp2
    go_ret2
    exact ⟨rfl, rfl⟩
  · rw [show wordSumR zs = sumW zs from by simp [wordSumR, g0]]
    have C2 := Lib.hid (c_wordSum A cap zs w h (goodB_areW g0) (by omega))
    have hs := sumW_all (goodB_areW g0)
    clear h
    go_enter Try.func59, Try.ntmps59
    go_wp2_with fail
    refine C1.out.mono ?_
    rintro e w' ⟨rfl, rfl⟩
    go_wp2_with fail
    refine C2.out.mono ?_
    rintro e w' ⟨rfl, rfl⟩
    go_wp2
    go_ret2
    exact ⟨rfl, rfl⟩
theorem c_specWordSum {H : Nat} (A : Option Addr) (cap : Nat) (zs : List Int) (w : World) (h : Ints w H A zs) (hl : zs.length ≤ 100000000) :
    Calls Try.prog 61 #[.slice A zs.length cap] w fun e w' => e = .returned (.tuple #[.int .i64 (wordSumR zs), .bool (goodB 40 65535 zs)]) ∧ w = w' := by
  have C1 := Lib.hid (c_l3Good A cap zs w h hl)
  cases g0 : goodB 40 65535 zs
  · rw [show wordSumR zs = 0 from by simp [wordSumR, g0]]
    clear h
    go_enter Try.func61, Try.ntmps61
    go_wp2_with fail
    refine C1.out.mono ?_
    rintro e w' ⟨rfl, rfl⟩
    go_wp2
    go_ret2
    exact ⟨rfl, rfl⟩
  · rw [show wordSumR zs = sumW zs from by simp [wordSumR, g0]]
    have C2 := Lib.hid (c_l3Sum A cap zs w h (goodB_areW g0) (by omega))
    have hs := sumW_all (goodB_areW g0)
    clear h
    go_enter Try.func61, Try.ntmps61
    go_wp2_with fail
    refine C1.out.mono ?_
    rintro e w' ⟨rfl, rfl⟩
    go_wp2_with fail
    refine C2.out.mono ?_
    rintro e w' ⟨rfl, rfl⟩
    go_wp2
    go_ret2
    exact ⟨rfl, rfl⟩
def wordCheckR (zs : List Int) : Int := if goodB 40 65535 zs then 65535 - sumW zs else 0
theorem c_implWordCheck {H : Nat} (A : Option Addr) (cap : Nat) (zs : List Int) (w : World) (h : Ints w H A zs) (hl : zs.length ≤ 100000000) :
    Calls Try.prog 60 #[.slice A zs.length cap] w fun e w' => e = .returned (.tuple #[.int .i64 (wordCheckR zs), .bool (goodB 40 65535 zs)]) ∧ w = w' := by
  have C1 := Lib.hid (c_areWords A cap zs w h hl)
  cases g0 : goodB 40 65535 zs
  · rw [show wordCheckR zs = 0 from by simp [wordCheckR, g0]]
    clear h
    go_enter Try.func60, Try.ntmps60
    go_wp2_with fail
    refine C1.out.mono ?_
    rintro e w' ⟨rfl, rfl⟩
    go_wp2
    go_ret2
    exact ⟨rfl, rfl⟩
  · rw [show wordCheckR zs = 65535 - sumW zs from by simp [wordCheckR, g0]]
    have C2 := Lib.hid (c_wordSum A cap zs w h (goodB_areW g0) (by omega))
    have hs := sumW_all (goodB_areW g0)
    clear h
    go_enter Try.func60, Try.ntmps60
    go_wp2_with fail
    refine C1.out.mono ?_
    rintro e w' ⟨rfl, rfl⟩
    go_wp2_with fail
    refine C2.out.mono ?_
    rintro e w' ⟨rfl, rfl⟩
    go_wp2
    go_ret2
    exact ⟨rfl, rfl⟩
theorem c_specWordCheck {H : Nat} (A : Option Addr) (cap : Nat) (zs : List Int) (w : World) (h : Ints w H A zs) (hl : zs.length ≤ 100000000) :
    Calls Try.prog 62 #[.slice A zs.length cap] w fun e w' => e = .returned (.tuple #[.int .i64 (wordCheckR zs), .bool (goodB 40 65535 zs)]) ∧ w = w' := by
  have C1 := Lib.hid (c_l3Good A cap zs w h hl)
  cases g0 : goodB 40 65535 zs
  · rw [show wordCheckR zs = 0 from by simp [wordCheckR, g0]]
    clear h
    go_enter Try.func62, Try.ntmps62
    go_wp2_with fail
    refine C1.out.mono ?_
    rintro e w' ⟨rfl, rfl⟩
    go_wp2
    go_ret2
    exact ⟨rfl, rfl⟩
  · rw [show wordCheckR zs = 65535 - sumW zs from by simp [wordCheckR, g0]]
    have C2 := Lib.hid (c_l3Sum A cap zs w h (goodB_areW g0) (by omega))
    have hs := sumW_all (goodB_areW g0)
    clear h
    go_enter Try.func62, Try.ntmps62
    go_wp2_with fail
    refine C1.out.mono ?_
    rintro e w' ⟨rfl, rfl⟩
    go_wp2_with fail
    refine C2.out.mono ?_
    rintro e w' ⟨rfl, rfl⟩
    go_wp2
    go_ret2
    exact ⟨rfl, rfl⟩
def isSoundListR (zs : List Int) : Bool := if goodB 40 65535 zs then (sumW zs == 65535) else false
theorem c_implIsSoundList {H : Nat} (A : Option Addr) (cap : Nat) (zs : List Int) (w : World) (h : Ints w H A zs) (hl : zs.length ≤ 100000000) :
    Calls Try.prog 63 #[.slice A zs.length cap] w fun e w' => e = .returned (.tuple #[.bool (isSoundListR zs), .bool (goodB 40 65535 zs)]) ∧ w = w' := by
  have C1 := Lib.hid (c_areWords A cap zs w h hl)
  cases g0 : goodB 40 65535 zs
  · rw [show isSoundListR zs = false from by simp [isSoundListR, g0]]
    clear h
    go_enter Try.func63, Try.ntmps63
    go_wp2_with fail
    refine C1.out.mono ?_
    rintro e w' ⟨rfl, rfl⟩
    go_wp2
    go_ret2
    exact ⟨rfl, rfl⟩
  · rw [show isSoundListR zs = (sumW zs == 65535) from by simp [isSoundListR, g0]]
    have C2 := Lib.hid (c_wordSum A cap zs w h (goodB_areW g0) (by omega))
    have hs := sumW_all (goodB_areW g0)
    clear h
    go_enter Try.func63, Try.ntmps63
    go_wp2_with fail
    refine C1.out.mono ?_
    rintro e w' ⟨rfl, rfl⟩
    go_wp2_with fail
    refine C2.out.mono ?_
    rintro e w' ⟨rfl, rfl⟩
    go_wp2
    go_ret2
    exact ⟨rfl, rfl⟩
theorem c_specIsSoundList {H : Nat} (A : Option Addr) (cap : Nat) (zs : List Int) (w : World) (h : Ints w H A zs) (hl : zs.length ≤ 100000000) :
    Calls Try.prog 66 #[.slice A zs.length cap] w fun e w' => e = .returned (.tuple #[.bool (isSoundListR zs), .bool (goodB 40 65535 zs)]) ∧ w = w' := by
  have C1 := Lib.hid (c_l3Good A cap zs w h hl)
  cases g0 : goodB 40 65535 zs
  · rw [show isSoundListR zs = false from by simp [isSoundListR, g0]]
    clear h
    go_enter Try.func66, Try.ntmps66
    go_wp2_with fail
    refine C1.out.mono ?_
    rintro e w' ⟨rfl, rfl⟩
    go_wp2
    go_ret2
    exact ⟨rfl, rfl⟩
  · rw [show isSoundListR zs = (sumW zs == 65535) from by simp [isSoundListR, g0]]
    have C2 := Lib.hid (c_l3Sum A cap zs w h (goodB_areW g0) (by omega))
    have hs := sumW_all (goodB_areW g0)
    clear h
    go_enter Try.func66, Try.ntmps66
    go_wp2_with fail
    refine C1.out.mono ?_
    rintro e w' ⟨rfl, rfl⟩
    go_wp2_with fail
    refine C2.out.mono ?_
    rintro e w' ⟨rfl, rfl⟩
    go_wp2
    go_ret2
    exact ⟨rfl, rfl⟩
end Go.Proofs.Ytkoccbjeoihbiaa
