/- Sets joined by the reference: its five functions. -/
import Derived.Test.YtlammcoiaeodfaaGreatDoorRem
namespace Go.Proofs.YtlammcoiaeodfaaGreatDoor
open Go.RowKit
set_option linter.unusedVariables false
set_option maxRecDepth 100000

theorem setB_nf0 {rs : List (Int × Int)} (h : setB rs = true) : Nf 0 rs ∧ rs.length ≤ 10 := by
  have := setB_good.1 h
  exact ⟨this.1, this.2⟩
set_option maxHeartbeats 4000000 in
theorem c_l5Without {H : Nat} (A : Option Addr) (cap : Nat) (a : List (Int × Int)) (A' : Option Addr) (cap' : Nat) (b : List (Int × Int)) (w : World) (h : Rngs w H A a) (k : Rngs w H A' b) (hH : H ≤ w.heap.size) (ha : Nf 0 a) (hb : WordRs b) (hl : b.length ≤ 1000000) :
    Calls Tryz.prog 30 #[.slice A a.length cap, .slice A' b.length cap'] w fun e w' => ∃ A2 c2, e = .returned (.slice A2 (remAll a b).length c2) ∧ OwnR w' w.heap.size A2 c2 (remAll a b) ∧ Below w.heap.size w w' := by
  have bel : Below w.heap.size w (w.alloc (.cells #[] 47)) := (Below.refl _ _).alloc (Nat.le_refl _) _
  have HI := Lib.hid ((h.more hH).keep bel)
  have HK := Lib.hid (k.more hH)
  have HE := Lib.hid (OwnR.empty w w.heap.size (Nat.le_refl _))
  have HA := Lib.hid ha
  have HW := Lib.hid hb
  have hal := ha.small
  clear h k ha hb
  go_enter Tryz.func30, Tryz.ntmps30
  go_wp2_with (at_builtin; refine wpList_appRz _ rfl _ _ rfl w.heap.size _ 0 [] rfl HE.out a A cap rfl HI.out (by simp; omega) bel.size ?_; intro A1 c1 w1 o1 b1)
  simp only [List.nil_append] at o1
  have HO := Lib.hid o1
  have HB := Lib.hid (bel.trans b1)
  clear o1 b1 bel HE HI
  go_wp2
  go_loopw [5, 6] (fun v i wr => ∃ (j : Nat) (A3 : Option Addr) (c3 : Nat), j ≤ b.length ∧ i = .int .i64 j ∧ v = .slice A3 (remAll a (b.take j)).length c3 ∧ Hid (OwnR wr w.heap.size A3 c3 (remAll a (b.take j))) ∧ Hid (Below w.heap.size w wr)) (fun _ i _ => b.length - (intOf i).toNat)
  case atStart => exact ⟨0, A1, c1, Nat.zero_le _, rfl, rfl, HO, HB⟩
  case round =>
    clear HO HB
    obtain ⟨j, A3, c3, hj, rfl, rfl, HO, HB⟩ := hrel
    have hn := Lib.hid (remK_nf HA.out HW.out j)
    have hsm := hn.out.small
    by_cases hlt : j < b.length
    · have HN := Lib.hid (remK_step a b j hlt)
      have HX := Lib.hid (HW.out.at_ hlt)
      obtain ⟨ad, rfl, hadb, hc, hd⟩ := (HK.out.keep HB.out).at_ hlt
      have hi : (j : Int) < (b.length : Int) := by omega
      generalize b.getD j (0, 0) = e at *
      generalize remAll a (b.take j) = L at *
      obtain ⟨x, y⟩ := e
      clear HK
      go_wp2_with fail
      refine (c_l5Remove A3 c3 L x y wr HO.out.rngs (Nat.le_refl _) (by omega) (WordRs.of_nf hn.out) HX.out).mono ?_
      rintro e w2 ⟨A4, c4, rfl, o4, b4⟩
      have HO4 := Lib.hid (o4.base HB.out.size)
      have HB4 := Lib.hid (HB.out.trans (b4.mono HB.out.size))
      clear o4 b4 hc hd HO HB
      go_wp2
      go_roundw
      case rel => exact ⟨j + 1, A4, c4, by omega, by go_num, by rw [HN.out], Lib.hid (by rw [HN.out]; exact HO4.out), HB4⟩
      case measure => simp [intOf]; omega
    · obtain rfl : j = b.length := by omega
      rw [List.take_length] at HO
      rw [List.take_length] at hsm
      rw [List.take_length] at hn
      try rw [List.take_length]
      clear HK
      go_wp2
      go_ret
      exact ⟨A3, c3, rfl, HO.out, HB.out⟩
def uniOk (a b : List (Int × Int)) : Bool := setB a && setB b
set_option maxHeartbeats 4000000 in
theorem c_specUnionOf {H : Nat} (A : Option Addr) (cap : Nat) (a : List (Int × Int)) (A' : Option Addr) (cap' : Nat) (b : List (Int × Int)) (w : World) (h : Rngs w H A a) (k : Rngs w H A' b) (hH : H ≤ w.heap.size) (hla0 : a.length ≤ 100000000) (hlb : b.length ≤ 100000000) :
    Calls Tryz.prog 9 #[.slice A a.length cap, .slice A' b.length cap'] w fun e w' => ∃ A2 c2, e = .returned (.tuple #[.slice A2 (sgl (uniOk a b) (addAll a b)).length c2, .bool (sOk (uniOk a b) (addAll a b))]) ∧ OwnR w' w.heap.size A2 c2 (sgl (uniOk a b) (addAll a b)) ∧ Below w.heap.size w w' := by
  have C1 := Lib.hid (c_l5Good A cap a w h hH hla0)
  have HI := Lib.hid (h.more hH)
  have HK := Lib.hid (k.more hH)
  clear h k
  cases g0 : setB a
  · rw [show uniOk a b = false from by simp [uniOk, g0], sOk_n, sgl_n]
    go_enter Tryz.func9, Tryz.ntmps9
    go_wp2_with fail
    refine C1.out.mono ?_
    rintro e w1 ⟨rfl, b1⟩
    have s1 := b1.size
    have HE := Lib.hid (OwnR.empty w1 w.heap.size s1)
    have HB := Lib.hid (b1.alloc b1.size (.cells #[] 47))
    clear b1
    go_wp2
    go_ret2
    exact ⟨_, _, rfl, HE.out, HB.out⟩
  cases g1 : setB b
  · rw [show uniOk a b = false from by simp [uniOk, g1], sOk_n, sgl_n]
    go_enter Tryz.func9, Tryz.ntmps9
    go_wp2_with fail
    refine C1.out.mono ?_
    rintro e w1 ⟨rfl, b1⟩
    have s1 := b1.size
    have C2 := Lib.hid (c_l5Good A' cap' b w1 (HK.out.keep b1) s1 hlb)
    have HB1 := Lib.hid b1
    clear b1
    go_wp2_with fail
    refine C2.out.mono ?_
    rintro e w2 ⟨rfl, b2⟩
    have b3 := HB1.out.trans (b2.mono s1)
    have HE := Lib.hid (OwnR.empty w2 w.heap.size b3.size)
    have HB := Lib.hid (b3.alloc b3.size (.cells #[] 47))
    clear b2 b3
    go_wp2
    go_ret2
    exact ⟨_, _, rfl, HE.out, HB.out⟩
  obtain ⟨ha, hla⟩ := setB_nf0 g0
  obtain ⟨hb0, hlb2⟩ := setB_nf0 g1
  have HA := Lib.hid ha
  have HW := Lib.hid (WordRs.of_nf hb0)
  have HN0 := Lib.hid hb0
  rw [show uniOk a b = true from by simp [uniOk, g0, g1]]
  clear ha hb0
  go_enter Tryz.func9, Tryz.ntmps9
  go_wp2_with fail
  refine C1.out.mono ?_
  rintro e v1 ⟨rfl, b1⟩
  have s1 := b1.size
  have C2 := Lib.hid (c_l5Good A' cap' b v1 (HK.out.keep b1) s1 hlb)
  have HB1 := Lib.hid b1
  clear b1
  go_wp2_with fail
  refine C2.out.mono ?_
  rintro e v2 ⟨rfl, b2⟩
  have HBv := Lib.hid (HB1.out.trans (b2.mono s1))
  clear b2 C1 C2 HB1
  have bel : Below w.heap.size w (v2.alloc (.cells #[] 47)) := HBv.out.alloc HBv.out.size _
  have HI2 := Lib.hid (HI.out.keep bel)
  have HE := Lib.hid (OwnR.empty v2 w.heap.size HBv.out.size)
  go_wp2_with (at_builtin; refine wpList_appRz _ rfl _ _ rfl w.heap.size _ 0 [] rfl HE.out a A cap rfl HI2.out (by simp; omega) bel.size ?_; intro A1 c1 w1 o1 b1)
  simp only [List.nil_append] at o1
  have HO := Lib.hid o1
  have HB := Lib.hid (bel.trans b1)
  clear o1 b1 bel HE HI HI2 HBv
  go_wp2
  go_loopw [6, 7] (fun v i wr => ∃ (j : Nat) (A3 : Option Addr) (c3 : Nat), j ≤ b.length ∧ i = .int .i64 j ∧ v = .slice A3 (addAll a (b.take j)).length c3 ∧ Hid (OwnR wr w.heap.size A3 c3 (addAll a (b.take j))) ∧ Hid (Below w.heap.size w wr)) (fun _ i _ => b.length - (intOf i).toNat)
  case atStart => exact ⟨0, A1, c1, Nat.zero_le _, rfl, rfl, HO, HB⟩
  case round =>
    clear HO HB
    obtain ⟨j, A3, c3, hj, rfl, rfl, HO, HB⟩ := hrel
    have hn := Lib.hid (addK_nf HA.out HW.out j)
    have hsm := hn.out.small
    by_cases hlt : j < b.length
    · have HN := Lib.hid (addK_step a b j hlt)
      have HX := Lib.hid (HW.out.at_ hlt)
      obtain ⟨ad, rfl, hadb, hc, hd⟩ := (HK.out.keep HB.out).at_ hlt
      have hi : (j : Int) < (b.length : Int) := by omega
      generalize b.getD j (0, 0) = e at *
      generalize addAll a (b.take j) = L at *
      obtain ⟨x, y⟩ := e
      clear HK
      go_wp2_with fail
      refine (c_l5Add A3 c3 L x y wr HO.out.rngs (Nat.le_refl _) (by omega) (WordRs.of_nf hn.out) HX.out).mono ?_
      rintro e w2 ⟨A4, c4, rfl, o4, b4⟩
      have HO4 := Lib.hid (o4.base HB.out.size)
      have HB4 := Lib.hid (HB.out.trans (b4.mono HB.out.size))
      clear o4 b4 hc hd HO HB
      go_wp2
      go_roundw
      case rel => exact ⟨j + 1, A4, c4, by omega, by go_num, by rw [HN.out], Lib.hid (by rw [HN.out]; exact HO4.out), HB4⟩
      case measure => simp [intOf]; omega
    · obtain rfl : j = b.length := by omega
      rw [List.take_length] at HO
      rw [List.take_length] at hsm
      rw [List.take_length] at hn
      try rw [List.take_length]
      clear HK
      go_wp2_with fail
      refine (c_l5Checked A3 c3 (addAll a b) wr HO.out HB.out.size (by omega)).mono ?_
      rintro e w3 ⟨A5, c5, rfl, o5, b5⟩
      have HO5 := Lib.hid o5
      have HB5 := Lib.hid (HB.out.trans (b5.mono HB.out.size))
      clear o5 b5
      go_wp2
      go_ret2
      exact ⟨A5, c5, rfl, HO5.out, HB5.out⟩
set_option maxHeartbeats 4000000 in
theorem c_specWithoutOf {H : Nat} (A : Option Addr) (cap : Nat) (a : List (Int × Int)) (A' : Option Addr) (cap' : Nat) (b : List (Int × Int)) (w : World) (h : Rngs w H A a) (k : Rngs w H A' b) (hH : H ≤ w.heap.size) (hla0 : a.length ≤ 100000000) (hlb : b.length ≤ 100000000) :
    Calls Tryz.prog 12 #[.slice A a.length cap, .slice A' b.length cap'] w fun e w' => ∃ A2 c2, e = .returned (.tuple #[.slice A2 (sgl (uniOk a b) (remAll a b)).length c2, .bool (sOk (uniOk a b) (remAll a b))]) ∧ OwnR w' w.heap.size A2 c2 (sgl (uniOk a b) (remAll a b)) ∧ Below w.heap.size w w' := by
  have C1 := Lib.hid (c_l5Good A cap a w h hH hla0)
  have HI := Lib.hid (h.more hH)
  have HK := Lib.hid (k.more hH)
  clear h k
  cases g0 : setB a
  · rw [show uniOk a b = false from by simp [uniOk, g0], sOk_n, sgl_n]
    go_enter Tryz.func12, Tryz.ntmps12
    go_wp2_with fail
    refine C1.out.mono ?_
    rintro e w1 ⟨rfl, b1⟩
    have s1 := b1.size
    have HE := Lib.hid (OwnR.empty w1 w.heap.size s1)
    have HB := Lib.hid (b1.alloc b1.size (.cells #[] 47))
    clear b1
    go_wp2
    go_ret2
    exact ⟨_, _, rfl, HE.out, HB.out⟩
  cases g1 : setB b
  · rw [show uniOk a b = false from by simp [uniOk, g1], sOk_n, sgl_n]
    go_enter Tryz.func12, Tryz.ntmps12
    go_wp2_with fail
    refine C1.out.mono ?_
    rintro e w1 ⟨rfl, b1⟩
    have s1 := b1.size
    have C2 := Lib.hid (c_l5Good A' cap' b w1 (HK.out.keep b1) s1 hlb)
    have HB1 := Lib.hid b1
    clear b1
    go_wp2_with fail
    refine C2.out.mono ?_
    rintro e w2 ⟨rfl, b2⟩
    have b3 := HB1.out.trans (b2.mono s1)
    have HE := Lib.hid (OwnR.empty w2 w.heap.size b3.size)
    have HB := Lib.hid (b3.alloc b3.size (.cells #[] 47))
    clear b2 b3
    go_wp2
    go_ret2
    exact ⟨_, _, rfl, HE.out, HB.out⟩
  obtain ⟨ha, hla⟩ := setB_nf0 g0
  obtain ⟨hb0, hlb2⟩ := setB_nf0 g1
  have HA := Lib.hid ha
  have HW := Lib.hid (WordRs.of_nf hb0)
  have HN0 := Lib.hid hb0
  rw [show uniOk a b = true from by simp [uniOk, g0, g1]]
  clear ha hb0
  go_enter Tryz.func12, Tryz.ntmps12
  go_wp2_with fail
  refine C1.out.mono ?_
  rintro e v1 ⟨rfl, b1⟩
  have s1 := b1.size
  have C2 := Lib.hid (c_l5Good A' cap' b v1 (HK.out.keep b1) s1 hlb)
  have HB1 := Lib.hid b1
  clear b1
  go_wp2_with fail
  refine C2.out.mono ?_
  rintro e v2 ⟨rfl, b2⟩
  have HBv := Lib.hid (HB1.out.trans (b2.mono s1))
  clear b2 C1 C2 HB1
  go_wp2_with fail
  refine (c_l5Without A cap a A' cap' b v2 (HI.out.keep HBv.out) (HK.out.keep HBv.out) HBv.out.size HA.out HW.out (by omega)).mono ?_
  rintro e w4 ⟨A3, c3, rfl, o4, b4⟩
  have HO := Lib.hid (o4.base HBv.out.size)
  have HB := Lib.hid (HBv.out.trans (b4.mono HBv.out.size))
  have hsm := (without_law HA.out HN0.out).1.small
  clear o4 b4
  go_wp2_with fail
  refine (c_l5Checked A3 c3 (remAll a b) w4 HO.out HB.out.size (by omega)).mono ?_
  rintro e w3 ⟨A5, c5, rfl, o5, b5⟩
  have HO5 := Lib.hid o5
  have HB5 := Lib.hid (HB.out.trans (b5.mono HB.out.size))
  clear o5 b5
  go_wp2
  go_ret2
  exact ⟨A5, c5, rfl, HO5.out, HB5.out⟩
set_option maxHeartbeats 4000000 in
theorem c_specCommonOf {H : Nat} (A : Option Addr) (cap : Nat) (a : List (Int × Int)) (A' : Option Addr) (cap' : Nat) (b : List (Int × Int)) (w : World) (h : Rngs w H A a) (k : Rngs w H A' b) (hH : H ≤ w.heap.size) (hla0 : a.length ≤ 100000000) (hlb : b.length ≤ 100000000) :
    Calls Tryz.prog 11 #[.slice A a.length cap, .slice A' b.length cap'] w fun e w' => ∃ A2 c2, e = .returned (.tuple #[.slice A2 (sgl (uniOk a b) (remAll a (remAll a b))).length c2, .bool (sOk (uniOk a b) (remAll a (remAll a b)))]) ∧ OwnR w' w.heap.size A2 c2 (sgl (uniOk a b) (remAll a (remAll a b))) ∧ Below w.heap.size w w' := by
  have C1 := Lib.hid (c_l5Good A cap a w h hH hla0)
  have HI := Lib.hid (h.more hH)
  have HK := Lib.hid (k.more hH)
  clear h k
  cases g0 : setB a
  · rw [show uniOk a b = false from by simp [uniOk, g0], sOk_n, sgl_n]
    go_enter Tryz.func11, Tryz.ntmps11
    go_wp2_with fail
    refine C1.out.mono ?_
    rintro e w1 ⟨rfl, b1⟩
    have s1 := b1.size
    have HE := Lib.hid (OwnR.empty w1 w.heap.size s1)
    have HB := Lib.hid (b1.alloc b1.size (.cells #[] 47))
    clear b1
    go_wp2
    go_ret2
    exact ⟨_, _, rfl, HE.out, HB.out⟩
  cases g1 : setB b
  · rw [show uniOk a b = false from by simp [uniOk, g1], sOk_n, sgl_n]
    go_enter Tryz.func11, Tryz.ntmps11
    go_wp2_with fail
    refine C1.out.mono ?_
    rintro e w1 ⟨rfl, b1⟩
    have s1 := b1.size
    have C2 := Lib.hid (c_l5Good A' cap' b w1 (HK.out.keep b1) s1 hlb)
    have HB1 := Lib.hid b1
    clear b1
    go_wp2_with fail
    refine C2.out.mono ?_
    rintro e w2 ⟨rfl, b2⟩
    have b3 := HB1.out.trans (b2.mono s1)
    have HE := Lib.hid (OwnR.empty w2 w.heap.size b3.size)
    have HB := Lib.hid (b3.alloc b3.size (.cells #[] 47))
    clear b2 b3
    go_wp2
    go_ret2
    exact ⟨_, _, rfl, HE.out, HB.out⟩
  obtain ⟨ha, hla⟩ := setB_nf0 g0
  obtain ⟨hb0, hlb2⟩ := setB_nf0 g1
  have HA := Lib.hid ha
  have HW := Lib.hid (WordRs.of_nf hb0)
  have HN0 := Lib.hid hb0
  rw [show uniOk a b = true from by simp [uniOk, g0, g1]]
  clear ha hb0
  go_enter Tryz.func11, Tryz.ntmps11
  go_wp2_with fail
  refine C1.out.mono ?_
  rintro e v1 ⟨rfl, b1⟩
  have s1 := b1.size
  have C2 := Lib.hid (c_l5Good A' cap' b v1 (HK.out.keep b1) s1 hlb)
  have HB1 := Lib.hid b1
  clear b1
  go_wp2_with fail
  refine C2.out.mono ?_
  rintro e v2 ⟨rfl, b2⟩
  have HBv := Lib.hid (HB1.out.trans (b2.mono s1))
  clear b2 C1 C2 HB1
  go_wp2_with fail
  refine (c_l5Without A cap a A' cap' b v2 (HI.out.keep HBv.out) (HK.out.keep HBv.out) HBv.out.size HA.out HW.out (by omega)).mono ?_
  rintro e w4 ⟨A3, c3, rfl, o4, b4⟩
  have HO1 := Lib.hid (o4.base HBv.out.size)
  have HB1 := Lib.hid (HBv.out.trans (b4.mono HBv.out.size))
  have hn1 := (without_law HA.out HN0.out).1
  have HW1 := Lib.hid (WordRs.of_nf hn1)
  have hsm := hn1.small
  have hsm2 := (without_law HA.out hn1).1.small
  clear o4 b4 hn1
  go_wp2_with fail
  refine (c_l5Without A cap a A3 c3 (remAll a b) w4 ((HI.out.keep HB1.out).more HB1.out.size) HO1.out.rngs (Nat.le_refl _) HA.out HW1.out (by omega)).mono ?_
  rintro e w5 ⟨A4, c4, rfl, o4, b4⟩
  have HO := Lib.hid (o4.base HB1.out.size)
  have HB := Lib.hid (HB1.out.trans (b4.mono HB1.out.size))
  clear o4 b4 HO1 HB1
  go_wp2_with fail
  refine (c_l5Checked A4 c4 (remAll a (remAll a b)) w5 HO.out HB.out.size (by omega)).mono ?_
  rintro e w3 ⟨A5, c5, rfl, o5, b5⟩
  have HO5 := Lib.hid o5
  have HB5 := Lib.hid (HB.out.trans (b5.mono HB.out.size))
  clear o5 b5
  go_wp2
  go_ret2
  exact ⟨A5, c5, rfl, HO5.out, HB5.out⟩
end Go.Proofs.YtlammcoiaeodfaaGreatDoor
