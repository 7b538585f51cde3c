/- The reference's draws for the laws on words and texts. -/
import Derived.Test.YtkoccbjeoihbiaaDrawW
import Derived.Test.YtkoccbjeoihbiaaSeal
namespace Go.Proofs.Ytkoccbjeoihbiaa
open Go.RowKit
set_option linter.unusedVariables false
set_option maxRecDepth 100000

theorem c_DrawWordSum (A : Option Addr) (n cap : Nat) (w : World) (hB : BytesAt w w.heap.size A n) (hn : n ≤ 100000) :
    Calls Try.prog 133 #[.slice A n cap] w (DrawnL 60 word_rng w) := by
  have H0 := Lib.hid (cur_new w A n cap hB hn)
  have b0 := Lib.hid ((Below.refl w.heap.size w).alloc (Nat.le_refl _) (.cells #[.slice A n cap, .int .i64 0, .int .u64 0] 93))
  clear hB
  go_enter Try.func133, Try.ntmps133
  go_wp2_with fail
  refine (c_wordList w.heap.size 0 _ H0.out (by omega)).mono ?_
  rintro e w1 ⟨A1, c1, zs, rfl, hl, hP, -, o1, g1⟩
  have G1 := Lib.hid (below_cur b0.out (Nat.le_refl _) g1)
  have O1 := Lib.hid (o1.base b0.out.size)
  have HP := Lib.hid hP
  clear o1 g1 hP
  go_wp2
  go_ret
  exact ⟨A1, c1, zs, rfl, hl, HP.out, O1.out, G1.out⟩
theorem c_DrawSealWords (A : Option Addr) (n cap : Nat) (w : World) (hB : BytesAt w w.heap.size A n) (hn : n ≤ 100000) :
    Calls Try.prog 57 #[.slice A n cap] w (DrawnL 60 word_rng w) := by
  have C := Lib.hid (c_DrawWordSum A n cap w hB hn)
  clear hB
  go_enter Try.func57, Try.ntmps57
  go_wp2_with fail
  refine C.out.mono ?_
  rintro e w1 ⟨A1, c1, zs, rfl, hl, hP, o1, g1⟩
  have G1 := Lib.hid g1
  have O1 := Lib.hid o1
  have HP := Lib.hid hP
  clear o1 g1 hP
  go_wp2
  go_ret
  exact ⟨A1, c1, zs, rfl, hl, HP.out, O1.out, G1.out⟩
theorem c_DrawWordCheck (A : Option Addr) (n cap : Nat) (w : World) (hB : BytesAt w w.heap.size A n) (hn : n ≤ 100000) :
    Calls Try.prog 70 #[.slice A n cap] w (DrawnL 60 word_rng w) := by
  have C := Lib.hid (c_DrawWordSum A n cap w hB hn)
  clear hB
  go_enter Try.func70, Try.ntmps70
  go_wp2_with fail
  refine C.out.mono ?_
  rintro e w1 ⟨A1, c1, zs, rfl, hl, hP, o1, g1⟩
  have G1 := Lib.hid g1
  have O1 := Lib.hid o1
  have HP := Lib.hid hP
  clear o1 g1 hP
  go_wp2
  go_ret
  exact ⟨A1, c1, zs, rfl, hl, HP.out, O1.out, G1.out⟩
set_option maxHeartbeats 1000000 in
theorem c_DrawIsSoundList (A : Option Addr) (n cap : Nat) (w : World) (hB : BytesAt w w.heap.size A n) (hn : n ≤ 100000) :
    Calls Try.prog 65 #[.slice A n cap] w (DrawnL 100000 (fun _ => True) w) := by
  have H0 := Lib.hid (cur_new w A n cap hB hn)
  have b0 := Lib.hid ((Below.refl w.heap.size w).alloc (Nat.le_refl _) (.cells #[.slice A n cap, .int .i64 0, .int .u64 0] 93))
  clear hB
  go_enter Try.func65, Try.ntmps65
  go_wp2_with fail
  refine (c_wordList w.heap.size 0 _ H0.out (by omega)).mono ?_
  rintro e w1 ⟨A1, c1, zs, rfl, hl, -, h1, o1, g1⟩
  have B1 := Lib.hid (below_cur b0.out (Nat.le_refl _) g1)
  have O1 := Lib.hid (o1.base (B' := w.heap.size + 1) (by simp))
  have H1 := Lib.hid h1
  clear o1 g1 h1
  go_wp2_with fail
  refine (c_specSealWords A1 c1 zs _ O1.out.ints (Nat.le_refl _) (by omega)).mono ?_
  rintro e w2 ⟨A2, c2, rfl, o2, b2⟩
  have B2 := Lib.hid (B1.out.trans (b2.mono B1.out.size))
  have O2 := Lib.hid (O1.out.keep b2)
  have P2 := Lib.hid (o2.base (B' := w.heap.size + 1) H1.out.inside)
  have H2 := Lib.hid (H1.out.keep b2 H1.out.inside)
  have HL := sealL_len zs
  generalize sealL zs = ss at *
  clear o2 b2 O1 B1 H1
  cases hs : sealOk zs
  · go_wp2
    go_ret
    exact ⟨A1, c1, zs, rfl, by omega, fun _ _ => trivial, O2.out.base (Nat.le_succ _), B2.out⟩
  · go_wp2_with fail
    refine (c_one w.heap.size _ 2 _ H2.out (by omega) (by omega) (by omega)).mono ?_
    rintro e w3 ⟨y, rfl, -, g3⟩
    have B3 := Lib.hid (B2.out.grown g3 B2.out.size (fun k hk => by cases hk; exact Nat.le_refl _))
    have hlt : w.heap.size < w2.heap.size := H2.out.inside
    have O3 := Lib.hid ((O2.out.cur g3 (Nat.lt_succ_self _)).base (Nat.le_succ _))
    have P3 := Lib.hid ((P2.out.cur g3 (Nat.lt_succ_self _)).base (Nat.le_succ _))
    clear g3 O2 P2
    cases y
    · go_wp2
      go_ret
      exact ⟨A1, c1, zs, rfl, by omega, fun _ _ => trivial, O3.out, B3.out⟩
    · go_wp2
      go_ret
      exact ⟨A2, c2, ss, rfl, by omega, fun _ _ => trivial, P3.out, B3.out⟩
set_option maxHeartbeats 1000000 in
theorem c_DrawUpdateCheck (A : Option Addr) (n cap : Nat) (w : World) (hB : BytesAt w w.heap.size A n) (hn : n ≤ 100000) :
    Calls Try.prog 67 #[.slice A n cap] w (Drawn3 100000 w) := by
  have H0 := Lib.hid (cur_new w A n cap hB hn)
  have b0 := Lib.hid ((Below.refl w.heap.size w).alloc (Nat.le_refl _) (.cells #[.slice A n cap, .int .i64 0, .int .u64 0] 93))
  clear hB
  go_enter Try.func67, Try.ntmps67
  go_wp2_with fail
  refine (c_word w.heap.size 0 _ H0.out (by omega)).mono ?_
  rintro e w1 ⟨x, rfl, ⟨hx0, hx1⟩, k1, g1⟩
  have H1 := Lib.hid k1
  have G1 := Lib.hid g1
  clear k1 g1
  go_wp2_with fail
  refine (c_word w.heap.size _ _ H1.out (by omega)).mono ?_
  rintro e w2 ⟨y, rfl, ⟨hy0, hy1⟩, k2, g2⟩
  have H2 := Lib.hid k2
  have G2 := Lib.hid (grown_trans G1.out g2)
  clear k2 g2
  go_wp2_with fail
  refine (c_word w.heap.size _ _ H2.out (by omega)).mono ?_
  rintro e w3 ⟨z, rfl, ⟨hz0, hz1⟩, k3, g3⟩
  have G3 := Lib.hid (grown_trans G2.out g3)
  clear k3 g3
  go_wp2
  go_ret3
  exact ⟨x, y, z, rfl, ⟨by omega, by omega⟩, ⟨by omega, by omega⟩, ⟨by omega, by omega⟩, below_cur b0.out (Nat.le_refl _) G3.out⟩
set_option maxHeartbeats 1000000 in
theorem c_DrawAddWords (A : Option Addr) (n cap : Nat) (w : World) (hB : BytesAt w w.heap.size A n) (hn : n ≤ 100000) :
    Calls Try.prog 78 #[.slice A n cap] w (Drawn2 100000 w) := by
  have H0 := Lib.hid (cur_new w A n cap hB hn)
  have b0 := Lib.hid ((Below.refl w.heap.size w).alloc (Nat.le_refl _) (.cells #[.slice A n cap, .int .i64 0, .int .u64 0] 93))
  clear hB
  go_enter Try.func78, Try.ntmps78
  go_wp2_with fail
  refine (c_word w.heap.size 0 _ H0.out (by omega)).mono ?_
  rintro e w1 ⟨x, rfl, ⟨hx0, hx1⟩, k1, g1⟩
  have H1 := Lib.hid k1
  have G1 := Lib.hid g1
  clear k1 g1
  go_wp2_with fail
  refine (c_word w.heap.size _ _ H1.out (by omega)).mono ?_
  rintro e w2 ⟨y, rfl, ⟨hy0, hy1⟩, k2, g2⟩
  have G2 := Lib.hid (grown_trans G1.out g2)
  clear k2 g2
  go_wp2
  go_ret2
  exact ⟨x, y, rfl, by omega, by omega, by omega, by omega, below_cur b0.out (Nat.le_refl _) G2.out⟩
def Drawn1 (B : Int) (w : World) (e : Ending) (w' : World) : Prop := ∃ x : Int, e = .returned (.int .i64 x) ∧ -B ≤ x ∧ x ≤ B ∧ Below w.heap.size w w'
set_option maxHeartbeats 1000000 in
theorem c_DrawSwapWord (A : Option Addr) (n cap : Nat) (w : World) (hB : BytesAt w w.heap.size A n) (hn : n ≤ 100000) :
    Calls Try.prog 80 #[.slice A n cap] w (Drawn1 100000 w) := by
  have H0 := Lib.hid (cur_new w A n cap hB hn)
  have b0 := Lib.hid ((Below.refl w.heap.size w).alloc (Nat.le_refl _) (.cells #[.slice A n cap, .int .i64 0, .int .u64 0] 93))
  clear hB
  go_enter Try.func80, Try.ntmps80
  go_wp2_with fail
  refine (c_word w.heap.size 0 _ H0.out (by omega)).mono ?_
  rintro e w1 ⟨x, rfl, ⟨hx0, hx1⟩, k1, g1⟩
  have G1 := Lib.hid g1
  clear k1 g1
  go_wp2
  go_ret
  exact ⟨x, rfl, by omega, by omega, below_cur b0.out (Nat.le_refl _) G1.out⟩
end Go.Proofs.Ytkoccbjeoihbiaa
