/- Sets joined by the program: its five functions. -/
import Derived.Test.YtlammcoiaeodfaaGreatDoorMerged
namespace Go.Proofs.YtlammcoiaeodfaaGreatDoor
open Go.RowKit
set_option linter.unusedVariables false
set_option maxRecDepth 100000

theorem two_lists (u v : Value) (w : World) (t : TypeId) : (w.alloc (.cells #[u, v] t)).cell? ⟨w.heap.size, 0, none⟩ = some u ∧ (w.alloc (.cells #[u, v] t)).cell? ⟨w.heap.size, 1, none⟩ = some v := by
  constructor <;> simp [go_sem]
theorem WordRs.app {a b : List (Int × Int)} (h : WordRs a) (k : WordRs b) : WordRs (a ++ b) := fun q hq => by
  rcases List.mem_append.1 hq with hq | hq
  · exact h q hq
  · exact k q hq
set_option maxHeartbeats 400000 in
theorem c_asSet {B : Nat} (A : Option Addr) (cap : Nat) (L : List (Int × Int)) (w : World) (h : OwnR w B A cap L) (hn : Nf 0 L) :
    Calls Tryz.prog 22 #[.slice A L.length cap] w fun e w' => ∃ A' cap', e = .returned (.tuple #[.slice A' (sgl true L).length cap', .bool (sOk true L)]) ∧ OwnR w' B A' cap' (sgl true L) ∧ w = w' := by
  have hg := setB_nf hn
  have HO := Lib.hid h
  have HE := Lib.hid (OwnR.nil w B)
  have hsm := hn.small
  clear h
  by_cases g : L.length ≤ 10
  · rw [decide_eq_true g] at hg
    rw [sOk_y hg, sgl_y hg]
    have g1 : ¬ (10 : Int) < (L.length : Int) := by omega
    clear hg hn
    go_enter Tryz.func22, Tryz.ntmps22
    go_wp2
    go_ret2
    exact ⟨_, _, rfl, HO.out, rfl⟩
  · rw [decide_eq_false g] at hg
    rw [sOk_b hg, sgl_b hg]
    have g1 : (10 : Int) < (L.length : Int) := by omega
    clear hg hn
    go_enter Tryz.func22, Tryz.ntmps22
    go_wp2
    go_ret2
    exact ⟨_, _, rfl, HE.out, rfl⟩
set_option maxHeartbeats 4000000 in
theorem c_common {H : Nat} (A : Option Addr) (cap : Nat) (a : List (Int × Int)) (A' : Option Addr) (cap' : Nat) (b : List (Int × Int)) (w : World) (h : Rngs w H A a) (k : Rngs w H A' b) (hH : H ≤ w.heap.size) (ha : Nf 0 a) (hb : Nf 0 b) :
    Calls Tryz.prog 25 #[.slice A a.length cap, .slice A' b.length cap'] w fun e w' => ∃ d A2 c2, d.Perm (oppL a ++ oppL b) ∧ Sorted1 d ∧ e = .returned (.slice A2 (oppL (mergeL d)).length c2) ∧ OwnR w' w.heap.size A2 c2 (oppL (mergeL d)) ∧ Below w.heap.size w w' := by
  have HI := Lib.hid (h.more hH)
  have HK := Lib.hid (k.more hH)
  have HA := Lib.hid ha
  have HN := Lib.hid hb
  have na := Lib.hid (oppL_law ha).1
  have nb := Lib.hid (oppL_law hb).1
  have sa := ha.small
  have sb := hb.small
  have soa := na.out.small
  have sob := nb.out.small
  clear h k ha hb
  go_enter Tryz.func25, Tryz.ntmps25
  go_wp2_with fail
  refine (c_opposite A cap a w HI.out (Nat.le_refl _) (by omega) (WordRs.of_nf HA.out)).mono ?_
  rintro e v1 ⟨A1, c1, rfl, o1, b1⟩
  have HO1 := Lib.hid o1
  have HB1 := Lib.hid b1
  clear o1 b1
  go_wp2_with fail
  refine (c_opposite A' cap' b v1 (HK.out.keep HB1.out) HB1.out.size (by omega) (WordRs.of_nf HN.out)).mono ?_
  rintro e v2 ⟨A2, c2, rfl, o2, b2⟩
  have HR1 := Lib.hid ((HO1.out.keep b2).rngs)
  have HR2 := Lib.hid o2.rngs
  have HB2 := Lib.hid (HB1.out.trans (b2.mono HB1.out.size))
  clear o2 b2 HO1 HB1 HI HK
  have hl3 := two_lists (.slice A1 (oppL a).length c1) (.slice A2 (oppL b).length c2) v2 24
  have bl3 := Lib.hid (HB2.out.alloc HB2.out.size (.cells #[.slice A1 (oppL a).length c1, .slice A2 (oppL b).length c2] 24))
  have bk3 := Lib.hid ((Below.refl v2.heap.size v2).alloc (Nat.le_refl _) (.cells #[.slice A1 (oppL a).length c1, .slice A2 (oppL b).length c2] 24))
  have CC3 := Lib.hid (c_concat2 v2.heap.size A1 c1 (oppL a) A2 c2 (oppL b) (v2.alloc (.cells #[.slice A1 (oppL a).length c1, .slice A2 (oppL b).length c2] 24)) (HR1.out.keep bk3.out) (HR2.out.keep bk3.out) bk3.out.size (by omega) (by omega) (by simp) hl3.1 hl3.2)
  clear hl3
  go_wp2_with fail
  refine CC3.out.mono ?_
  rintro e v3 ⟨A3, c3, rfl, o3, b3⟩
  have HO3 := Lib.hid (o3.base bl3.out.size)
  have HB3 := Lib.hid (bl3.out.trans (b3.mono bl3.out.size))
  clear o3 b3 bl3 bk3 CC3
  clear HR1 HR2 HB2
  have CM := c_merged A3 c3 (oppL a ++ oppL b) v3 HO3.out.rngs (Nat.le_refl _) (by rw [List.length_append]; omega) ((WordRs.of_nf na.out).app (WordRs.of_nf nb.out))
  rw [List.length_append] at CM
  have HCM := Lib.hid CM
  clear CM
  go_wp2_with fail
  refine HCM.out.mono ?_
  rintro e v4 ⟨d, A4, c4, hp, hs, rfl, o4, b4⟩
  have hm := (merge_has na.out nb.out hp hs).1
  have hsm := hm.small
  have HP := Lib.hid hp
  have HS := Lib.hid hs
  have HM := Lib.hid hm
  have HO4 := Lib.hid (o4.base HB3.out.size)
  have HB4 := Lib.hid (HB3.out.trans (b4.mono HB3.out.size))
  clear hp hs hm o4 b4 HO3 HB3 HCM
  go_wp2_with fail
  refine (c_opposite A4 c4 (mergeL d) v4 HO4.out.rngs (Nat.le_refl _) (by omega) (WordRs.of_nf HM.out)).mono ?_
  rintro e v5 ⟨A5, c5, rfl, o5, b5⟩
  have HO5 := Lib.hid (o5.base HB4.out.size)
  have HB5 := Lib.hid (HB4.out.trans (b5.mono HB4.out.size))
  clear o5 b5 HO4 HB4
  go_wp2
  go_ret
  exact ⟨d, A5, c5, HP.out, HS.out, rfl, HO5.out, HB5.out⟩
set_option maxHeartbeats 4000000 in
theorem c_implUnionOf {H : Nat} (A : Option Addr) (cap : Nat) (a : List (Int × Int)) (A' : Option Addr) (cap' : Nat) (b : List (Int × Int)) (w : World) (h : Rngs w H A a) (k : Rngs w H A' b) (hH : H ≤ w.heap.size) (hla0 : a.length ≤ 100000000) (hlb : b.length ≤ 100000000) :
    Calls Tryz.prog 6 #[.slice A a.length cap, .slice A' b.length cap'] w fun e w' => ∃ A2 c2, e = .returned (.tuple #[.slice A2 (sgl (uniOk a b) (addAll a b)).length c2, .bool (sOk (uniOk a b) (addAll a b))]) ∧ OwnR w' w.heap.size A2 c2 (sgl (uniOk a b) (addAll a b)) ∧ Below w.heap.size w w' := by
  have C1 := Lib.hid (c_isRangeSet A cap a w h hH hla0)
  have HI := Lib.hid (h.more hH)
  have HK := Lib.hid (k.more hH)
  clear h k
  cases g0 : setB a
  · rw [show uniOk a b = false from by simp [uniOk, g0], sOk_n, sgl_n]
    go_enter Tryz.func6, Tryz.ntmps6
    go_wp2_with fail
    refine C1.out.mono ?_
    rintro e w1 ⟨rfl, b1⟩
    have HE := Lib.hid (OwnR.nil w1 w.heap.size)
    have HB := Lib.hid b1
    clear b1
    go_wp2
    go_ret2
    exact ⟨_, _, rfl, HE.out, HB.out⟩
  cases g1 : setB b
  · rw [show uniOk a b = false from by simp [uniOk, g1], sOk_n, sgl_n]
    go_enter Tryz.func6, Tryz.ntmps6
    go_wp2_with fail
    refine C1.out.mono ?_
    rintro e w1 ⟨rfl, b1⟩
    have s1 := b1.size
    have C2 := Lib.hid (c_isRangeSet A' cap' b w1 (HK.out.keep b1) s1 hlb)
    have HB1 := Lib.hid b1
    clear b1
    go_wp2_with fail
    refine C2.out.mono ?_
    rintro e w2 ⟨rfl, b2⟩
    have HE := Lib.hid (OwnR.nil w2 w.heap.size)
    have HB := Lib.hid (HB1.out.trans (b2.mono s1))
    clear b2
    go_wp2
    go_ret2
    exact ⟨_, _, rfl, HE.out, HB.out⟩
  obtain ⟨ha, hla⟩ := setB_nf0 g0
  obtain ⟨hb0, hlb2⟩ := setB_nf0 g1
  have HA := Lib.hid ha
  have HN := Lib.hid hb0
  rw [show uniOk a b = true from by simp [uniOk, g0, g1]]
  clear ha hb0
  go_enter Tryz.func6, Tryz.ntmps6
  go_wp2_with fail
  refine C1.out.mono ?_
  rintro e v1 ⟨rfl, b1⟩
  have s1 := b1.size
  have C2 := Lib.hid (c_isRangeSet A' cap' b v1 (HK.out.keep b1) s1 hlb)
  have HB1 := Lib.hid b1
  clear b1
  go_wp2_with fail
  refine C2.out.mono ?_
  rintro e v2 ⟨rfl, b2⟩
  have HBv := Lib.hid (HB1.out.trans (b2.mono s1))
  have HI2 := Lib.hid ((HI.out.keep HBv.out).more HBv.out.size)
  have HK2 := Lib.hid ((HK.out.keep HBv.out).more HBv.out.size)
  clear b2 C1 C2 HB1 HI HK
  have hl3 := two_lists (.slice A (a).length cap) (.slice A' (b).length cap') v2 24
  have bl3 := Lib.hid (HBv.out.alloc HBv.out.size (.cells #[.slice A (a).length cap, .slice A' (b).length cap'] 24))
  have bk3 := Lib.hid ((Below.refl v2.heap.size v2).alloc (Nat.le_refl _) (.cells #[.slice A (a).length cap, .slice A' (b).length cap'] 24))
  have CC3 := Lib.hid (c_concat2 v2.heap.size A cap (a) A' cap' (b) (v2.alloc (.cells #[.slice A (a).length cap, .slice A' (b).length cap'] 24)) (HI2.out.keep bk3.out) (HK2.out.keep bk3.out) bk3.out.size (by omega) (by omega) (by simp) hl3.1 hl3.2)
  clear hl3
  go_wp2_with fail
  refine CC3.out.mono ?_
  rintro e v3 ⟨A3, c3, rfl, o3, b3⟩
  have HO3 := Lib.hid (o3.base bl3.out.size)
  have HB3 := Lib.hid (bl3.out.trans (b3.mono bl3.out.size))
  clear o3 b3 bl3 bk3 CC3
  clear HI2 HK2 HBv
  have CM := c_merged A3 c3 (a ++ b) v3 HO3.out.rngs (Nat.le_refl _) (by rw [List.length_append]; omega) ((WordRs.of_nf HA.out).app (WordRs.of_nf HN.out))
  rw [List.length_append] at CM
  have HCM := Lib.hid CM
  clear CM
  go_wp2_with fail
  refine HCM.out.mono ?_
  rintro e v4 ⟨d, A4, c4, hp, hs, rfl, o4, b4⟩
  have hu := union_eq HA.out HN.out hp hs
  have hn := (merge_has HA.out HN.out hp hs).1
  rw [hu] at o4 hn ⊢
  have HO4 := Lib.hid (o4.base HB3.out.size)
  have HB4 := Lib.hid (HB3.out.trans (b4.mono HB3.out.size))
  have HM := Lib.hid hn
  clear hp hs hu hn o4 b4 HO3 HB3 HCM
  go_wp2_with fail
  refine (c_asSet A4 c4 (addAll a b) v4 HO4.out HM.out).mono ?_
  rintro e w3 ⟨A9, c9, rfl, o9, rfl⟩
  have HO9 := Lib.hid o9
  clear o9
  go_wp2
  go_ret2
  exact ⟨A9, c9, rfl, HO9.out, HB4.out⟩
set_option maxHeartbeats 4000000 in
theorem c_implCommonOf {H : Nat} (A : Option Addr) (cap : Nat) (a : List (Int × Int)) (A' : Option Addr) (cap' : Nat) (b : List (Int × Int)) (w : World) (h : Rngs w H A a) (k : Rngs w H A' b) (hH : H ≤ w.heap.size) (hla0 : a.length ≤ 100000000) (hlb : b.length ≤ 100000000) :
    Calls Tryz.prog 7 #[.slice A a.length cap, .slice A' b.length cap'] w fun e w' => ∃ A2 c2, e = .returned (.tuple #[.slice A2 (sgl (uniOk a b) (remAll a (remAll a b))).length c2, .bool (sOk (uniOk a b) (remAll a (remAll a b)))]) ∧ OwnR w' w.heap.size A2 c2 (sgl (uniOk a b) (remAll a (remAll a b))) ∧ Below w.heap.size w w' := by
  have C1 := Lib.hid (c_isRangeSet A cap a w h hH hla0)
  have HI := Lib.hid (h.more hH)
  have HK := Lib.hid (k.more hH)
  clear h k
  cases g0 : setB a
  · rw [show uniOk a b = false from by simp [uniOk, g0], sOk_n, sgl_n]
    go_enter Tryz.func7, Tryz.ntmps7
    go_wp2_with fail
    refine C1.out.mono ?_
    rintro e w1 ⟨rfl, b1⟩
    have HE := Lib.hid (OwnR.nil w1 w.heap.size)
    have HB := Lib.hid b1
    clear b1
    go_wp2
    go_ret2
    exact ⟨_, _, rfl, HE.out, HB.out⟩
  cases g1 : setB b
  · rw [show uniOk a b = false from by simp [uniOk, g1], sOk_n, sgl_n]
    go_enter Tryz.func7, Tryz.ntmps7
    go_wp2_with fail
    refine C1.out.mono ?_
    rintro e w1 ⟨rfl, b1⟩
    have s1 := b1.size
    have C2 := Lib.hid (c_isRangeSet A' cap' b w1 (HK.out.keep b1) s1 hlb)
    have HB1 := Lib.hid b1
    clear b1
    go_wp2_with fail
    refine C2.out.mono ?_
    rintro e w2 ⟨rfl, b2⟩
    have HE := Lib.hid (OwnR.nil w2 w.heap.size)
    have HB := Lib.hid (HB1.out.trans (b2.mono s1))
    clear b2
    go_wp2
    go_ret2
    exact ⟨_, _, rfl, HE.out, HB.out⟩
  obtain ⟨ha, hla⟩ := setB_nf0 g0
  obtain ⟨hb0, hlb2⟩ := setB_nf0 g1
  have HA := Lib.hid ha
  have HN := Lib.hid hb0
  rw [show uniOk a b = true from by simp [uniOk, g0, g1]]
  clear ha hb0
  go_enter Tryz.func7, Tryz.ntmps7
  go_wp2_with fail
  refine C1.out.mono ?_
  rintro e v1 ⟨rfl, b1⟩
  have s1 := b1.size
  have C2 := Lib.hid (c_isRangeSet A' cap' b v1 (HK.out.keep b1) s1 hlb)
  have HB1 := Lib.hid b1
  clear b1
  go_wp2_with fail
  refine C2.out.mono ?_
  rintro e v2 ⟨rfl, b2⟩
  have HBv := Lib.hid (HB1.out.trans (b2.mono s1))
  have HI2 := Lib.hid ((HI.out.keep HBv.out).more HBv.out.size)
  have HK2 := Lib.hid ((HK.out.keep HBv.out).more HBv.out.size)
  clear b2 C1 C2 HB1 HI HK
  go_wp2_with fail
  refine (c_common A cap a A' cap' (b) v2 HI2.out HK2.out (Nat.le_refl _) HA.out HN.out).mono ?_
  rintro e v4 ⟨d, A4, c4, hp, hs, rfl, o4, b4⟩
  have hu := common_eq HA.out HN.out hp hs
  have hn := (common_has HA.out HN.out hp hs).1
  rw [hu] at o4 hn ⊢
  have HO4 := Lib.hid (o4.base HBv.out.size)
  have HB4 := Lib.hid (HBv.out.trans (b4.mono HBv.out.size))
  have HM := Lib.hid hn
  clear hp hs hu hn o4 b4
  go_wp2_with fail
  refine (c_asSet A4 c4 (remAll a (remAll a b)) v4 HO4.out HM.out).mono ?_
  rintro e w3 ⟨A9, c9, rfl, o9, rfl⟩
  have HO9 := Lib.hid o9
  clear o9
  go_wp2
  go_ret2
  exact ⟨A9, c9, rfl, HO9.out, HB4.out⟩
set_option maxHeartbeats 4000000 in
theorem c_implWithoutOf {H : Nat} (A : Option Addr) (cap : Nat) (a : List (Int × Int)) (A' : Option Addr) (cap' : Nat) (b : List (Int × Int)) (w : World) (h : Rngs w H A a) (k : Rngs w H A' b) (hH : H ≤ w.heap.size) (hla0 : a.length ≤ 100000000) (hlb : b.length ≤ 100000000) :
    Calls Tryz.prog 8 #[.slice A a.length cap, .slice A' b.length cap'] w fun e w' => ∃ A2 c2, e = .returned (.tuple #[.slice A2 (sgl (uniOk a b) (remAll a b)).length c2, .bool (sOk (uniOk a b) (remAll a b))]) ∧ OwnR w' w.heap.size A2 c2 (sgl (uniOk a b) (remAll a b)) ∧ Below w.heap.size w w' := by
  have C1 := Lib.hid (c_isRangeSet A cap a w h hH hla0)
  have HI := Lib.hid (h.more hH)
  have HK := Lib.hid (k.more hH)
  clear h k
  cases g0 : setB a
  · rw [show uniOk a b = false from by simp [uniOk, g0], sOk_n, sgl_n]
    go_enter Tryz.func8, Tryz.ntmps8
    go_wp2_with fail
    refine C1.out.mono ?_
    rintro e w1 ⟨rfl, b1⟩
    have HE := Lib.hid (OwnR.nil w1 w.heap.size)
    have HB := Lib.hid b1
    clear b1
    go_wp2
    go_ret2
    exact ⟨_, _, rfl, HE.out, HB.out⟩
  cases g1 : setB b
  · rw [show uniOk a b = false from by simp [uniOk, g1], sOk_n, sgl_n]
    go_enter Tryz.func8, Tryz.ntmps8
    go_wp2_with fail
    refine C1.out.mono ?_
    rintro e w1 ⟨rfl, b1⟩
    have s1 := b1.size
    have C2 := Lib.hid (c_isRangeSet A' cap' b w1 (HK.out.keep b1) s1 hlb)
    have HB1 := Lib.hid b1
    clear b1
    go_wp2_with fail
    refine C2.out.mono ?_
    rintro e w2 ⟨rfl, b2⟩
    have HE := Lib.hid (OwnR.nil w2 w.heap.size)
    have HB := Lib.hid (HB1.out.trans (b2.mono s1))
    clear b2
    go_wp2
    go_ret2
    exact ⟨_, _, rfl, HE.out, HB.out⟩
  obtain ⟨ha, hla⟩ := setB_nf0 g0
  obtain ⟨hb0, hlb2⟩ := setB_nf0 g1
  have HA := Lib.hid ha
  have HN := Lib.hid hb0
  rw [show uniOk a b = true from by simp [uniOk, g0, g1]]
  clear ha hb0
  go_enter Tryz.func8, Tryz.ntmps8
  go_wp2_with fail
  refine C1.out.mono ?_
  rintro e v1 ⟨rfl, b1⟩
  have s1 := b1.size
  have C2 := Lib.hid (c_isRangeSet A' cap' b v1 (HK.out.keep b1) s1 hlb)
  have HB1 := Lib.hid b1
  clear b1
  go_wp2_with fail
  refine C2.out.mono ?_
  rintro e v2 ⟨rfl, b2⟩
  have HBv := Lib.hid (HB1.out.trans (b2.mono s1))
  have HI2 := Lib.hid ((HI.out.keep HBv.out).more HBv.out.size)
  have HK2 := Lib.hid ((HK.out.keep HBv.out).more HBv.out.size)
  clear b2 C1 C2 HB1 HI HK
  go_wp2_with fail
  refine (c_opposite A' cap' b v2 HK2.out (Nat.le_refl _) (by omega) (WordRs.of_nf HN.out)).mono ?_
  rintro e v3 ⟨A3, c3, rfl, o3, b3⟩
  have HR3 := Lib.hid o3.rngs
  have HI3 := Lib.hid ((HI2.out.keep b3).more b3.size)
  have HB3 := Lib.hid (HBv.out.trans (b3.mono HBv.out.size))
  have HNo := Lib.hid (oppL_law HN.out).1
  clear o3 b3 HBv HI2 HK2
  go_wp2_with fail
  refine (c_common A cap a A3 c3 (oppL b) v3 HI3.out HR3.out (Nat.le_refl _) HA.out HNo.out).mono ?_
  rintro e v4 ⟨d, A4, c4, hp, hs, rfl, o4, b4⟩
  have hu := without_eq HA.out HN.out hp hs
  have hn := (common_has HA.out HNo.out hp hs).1
  rw [hu] at o4 hn ⊢
  have HO4 := Lib.hid (o4.base HB3.out.size)
  have HB4 := Lib.hid (HB3.out.trans (b4.mono HB3.out.size))
  have HM := Lib.hid hn
  clear hp hs hu hn o4 b4
  go_wp2_with fail
  refine (c_asSet A4 c4 (remAll a b) v4 HO4.out HM.out).mono ?_
  rintro e w3 ⟨A9, c9, rfl, o9, rfl⟩
  have HO9 := Lib.hid o9
  clear o9
  go_wp2
  go_ret2
  exact ⟨A9, c9, rfl, HO9.out, HB4.out⟩
end Go.Proofs.YtlammcoiaeodfaaGreatDoor
