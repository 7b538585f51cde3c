/- The reference's draws of texts. -/
import Derived.Test.YtkoccbjeoihbiaaDrawW
import Derived.Lib.SlBytesRow
namespace Go.Proofs.Ytkoccbjeoihbiaa
open Go.RowKit
set_option linter.unusedVariables false
set_option maxRecDepth 100000

/-- A text that is drawn. -/
def DrawsT (b N : Nat) (P : ByteArray → Prop) (w : World) (e : Ending) (w' : World) : Prop := ∃ s : ByteArray, e = .returned (.string s) ∧ P s ∧ Cur w' b N ∧ w.grownBy w' (some b)
def DrawnT (P : ByteArray → Prop) (w : World) (e : Ending) (w' : World) : Prop := ∃ s : ByteArray, e = .returned (.string s) ∧ P s ∧ Below w.heap.size w w'
def DrawnTT (P : ByteArray → ByteArray → Prop) (w : World) (e : Ending) (w' : World) : Prop := ∃ s t : ByteArray, e = .returned (.tuple #[.string s, .string t]) ∧ P s t ∧ Below w.heap.size w w'
theorem lies_lit (w : World) (vs : List Value) (t : TypeId) : Lies (w.alloc (.cells vs.toArray t)) (w.heap.size + 1) (some ⟨w.heap.size, 0, none⟩) vs := fun hn => by
  refine ⟨_, rfl, Nat.lt_succ_self _, fun j u hu => ?_⟩
  rw [add_lit]
  simp [go_sem]
  exact hu
theorem Lies.far {w w' : World} {H : Nat} {A : Option Addr} {vs : List Value} {row : Option Nat} (h : Lies w H A vs) (hg : w.grownBy w' row) (hH : H ≤ w.heap.size) (hne : ∀ ad, A = some ad → row ≠ some ad.block) : Lies w' H A vs := fun hn => by
  obtain ⟨ad, e, hb, hc⟩ := h hn
  refine ⟨ad, e, hb, fun j u hu => ?_⟩
  rw [← hc j u hu]
  exact World.cell?_of_block (hg.block _ (by rw [block_of_add]; omega) (by rw [block_of_add]; exact fun e2 => hne ad e e2.symm))
set_option maxHeartbeats 1000000 in
theorem c_of (b N H n : Nat) (P : ByteArray → Prop) (A : Option Addr) (cap : Nat) (vs : List Value) (w : World) (h : Cur w b N) (hN : N ≤ 1000000) (hA : Lies w H A vs) (hH : H ≤ w.heap.size) (hne : ∀ ad, A = some ad → (some b : Option Nat) ≠ some ad.block) (hn : vs.length = n) (hp : 0 < n) (hl : n ≤ 1000) (hP : ∀ v ∈ vs, ∃ s, v = .string s ∧ P s) :
    Calls Try.prog 137 #[.pointer (some ⟨b, 0, none⟩), .slice A n cap] w (DrawsT b (N + 2) P w) := by
  have H0 := Lib.hid h
  have HA := Lib.hid hA
  have HP := Lib.hid hP
  have HNE := Lib.hid hne
  have HN := Lib.hid hn
  clear h hA hP hne hn
  go_enter Try.func137, Try.ntmps137
  go_wp2_with fail
  refine (c_pick b N _ _ H0.out hN (by omega) (by omega)).mono ?_
  rintro e w1 ⟨x, rfl, ⟨hx0, hx1⟩, k1, g1⟩
  obtain ⟨i, rfl⟩ : ∃ i : Nat, x = (i : Int) := ⟨x.toNat, by omega⟩
  have hi : i < n := by omega
  have hi' : i < vs.length := by rw [HN.out]; exact hi
  obtain ⟨ad, rfl, hadb, hc⟩ := (HA.out.far g1 hH HNE.out) (by omega)
  obtain ⟨s, hs, hps⟩ := HP.out vs[i] (List.getElem_mem _)
  have hci := hc i (.string s) (by rw [List.getElem?_eq_getElem hi', hs])
  have HPS := Lib.hid hps
  have H1 := Lib.hid k1
  have G1 := Lib.hid g1
  clear k1 g1 HA HP HNE hc hs hi' HN hps
  go_wp2
  go_ret
  exact ⟨_, rfl, HPS.out, H1.out, G1.out⟩
theorem conv_one (w : World) (x : Int) : ∃ t : ByteArray, t.size ≤ 1 ∧ 1 ≤ t.size ∧ (convert 37 9 (.slice (some ⟨w.heap.size, 0, none⟩) 1 1)).run Try.prog (w.alloc (.cells #[.int .u8 x] 5)) = .ok (.string t) (w.alloc (.cells #[.int .u8 x] 5)) :=
  ⟨strOfNums [x], by rw [strOfNums_size]; exact Nat.le_refl _, by rw [strOfNums_size]; exact Nat.le_refl _, run_convert_bytes_arg (P := Try.prog) _ 37 5 Try.underlying37 Try.underlying5 w.heap.size 0 1 1 [x] rfl (fun i hi => by
    obtain rfl : i = 0 := by omega
    simp [go_sem]) 9 Try.underlying9⟩
set_option maxHeartbeats 4000000 in
theorem c_DrawWordsOf (A : Option Addr) (n cap : Nat) (w : World) (hB : BytesAt w w.heap.size A n) (hn : n ≤ 100000) :
    Calls Try.prog 75 #[.slice A n cap] w (DrawnT (fun s => s.size ≤ 100) w) := by
  have H0 := Lib.hid (cur_new w A n cap hB hn)
  have b0 := Lib.hid ((Below.refl w.heap.size w).alloc (Nat.le_refl _) (.cells #[.slice A n cap, .int .i64 0, .int .u64 0] 93))
  clear hB
  go_enter Try.func75, Try.ntmps75
  go_wp2_with fail
  refine (c_pick w.heap.size 0 9 _ H0.out (by omega) (by omega) (by omega)).mono ?_
  rintro e w1 ⟨y, rfl, ⟨hy0, hy1⟩, k1, g1⟩
  obtain ⟨n0, rfl⟩ : ∃ n : Nat, y = (n : Int) := ⟨y.toNat, by omega⟩
  have hn0 : n0 ≤ 9 := by omega
  have H1 := Lib.hid k1
  have B1 := Lib.hid (below_cur b0.out (Nat.le_refl _) g1)
  clear k1 g1 hy0 hy1
  go_wp2
  go_loopw [4, 5] (fun v i wr => ∃ (k M : Nat) (s : ByteArray), k ≤ 9 ∧ i = .int .i64 k ∧ v = .string s ∧ s.size + k ≤ 9 ∧ M + 2 * k ≤ 30 ∧ Hid (Cur wr w.heap.size M) ∧ Hid (Below w.heap.size w wr)) (fun _ i _ => (intOf i).toNat)
  case atStart => exact ⟨n0, 2, _, hn0, rfl, rfl, by show 0 + n0 ≤ 9; omega, by omega, H1, B1⟩
  case round =>
    clear H1 B1
    obtain ⟨k, M, s, hk, rfl, rfl, hlen, hM, HC, HB⟩ := hrel
    by_cases hk0 : 0 < k
    · go_wp2_with fail
      refine (c_among w.heap.size M (wr.heap.size + 1) (fun x => 0 ≤ x ∧ x ≤ 255) _ _ [0, 1, 65, 127, 128, 255] _ (HC.out.push _) (by omega) (ints_lit wr _) (by simp) (ne_new HC.out.inside) (by decide) (by decide) (by decide)).mono ?_
      rintro e w2 ⟨x, rfl, ⟨hx0, hx1⟩, k2, g2⟩
      have H2 := Lib.hid k2
      have B2 := Lib.hid (below_cur (HB.out.trans (((Below.refl wr.heap.size wr).alloc (Nat.le_refl _) _).mono HB.out.size)) (Nat.le_refl _) g2)
      clear k2 g2 HC HB
      obtain ⟨t, ht1, ht2, hcv⟩ := conv_one w2 x
      have hts : (s ++ t).size = s.size + t.size := ByteArray.size_append
      go_wp2
      have H3 := Lib.hid (H2.out.push (.cells #[.int .u8 x] 5))
      have B3 := Lib.hid (B2.out.alloc B2.out.size (.cells #[.int .u8 x] 5))
      go_roundw
      case rel => exact ⟨k - 1, M + 2, s ++ t, by omega, by go_num, rfl, by omega, by omega, H3, B3⟩
      case measure => simp [intOf]; omega
    · obtain rfl : k = 0 := by omega
      go_wp2_with fail
      refine (c_one w.heap.size M 24 _ HC.out (by omega) (by omega) (by omega)).mono ?_
      rintro e w2 ⟨y, rfl, k2, g2⟩
      have H2 := Lib.hid k2
      have B2 := Lib.hid (below_cur HB.out (Nat.le_refl _) g2)
      clear k2 g2 HC HB
      cases y
      · go_wp2
        go_ret
        exact ⟨s, rfl, by omega, B2.out⟩
      · go_wp2
        go_loopw [4] (fun v wr => ∃ (M : Nat) (s : ByteArray), v = .string s ∧ s.size ≤ 81 ∧ M + 2 * (81 - s.size) ≤ 300 ∧ Hid (Cur wr w.heap.size M) ∧ Hid (Below w.heap.size w wr)) (fun v _ => match v with | .string s => 81 - s.size | _ => 0)
        case atStart => exact ⟨M + 2, s, rfl, by omega, by omega, H2, B2⟩
        case round =>
          clear H2 B2
          obtain ⟨M', s, rfl, hle, hM', HC, HB⟩ := hrel
          go_wp2_with fail
          refine (c_pick w.heap.size M' 3 _ HC.out (by omega) (by omega) (by omega)).mono ?_
          rintro e w3 ⟨y, rfl, ⟨hy0, hy1⟩, k3, g3⟩
          have H3 := Lib.hid k3
          have B3 := Lib.hid (below_cur HB.out (Nat.le_refl _) g3)
          have hy2 : y < 3 := by omega
          clear k3 g3 HC HB hy1
          by_cases hlt : (s.size : Int) < 79 + y
          · have hts : (s ++ (⟨#[120]⟩ : ByteArray)).size = s.size + 1 := ByteArray.size_append
            have hlt' : s.size < 81 := by omega
            go_wp2
            go_roundw
            case rel => exact ⟨M' + 2, s ++ (⟨#[120]⟩ : ByteArray), rfl, by omega, by omega, H3, B3⟩
            case measure => show 81 - (s ++ (⟨#[120]⟩ : ByteArray)).size < 81 - s.size; omega
          · go_wp2
            go_ret
            exact ⟨s, rfl, by omega, B3.out⟩
set_option maxHeartbeats 1000000 in
theorem c_DrawTextSum (A : Option Addr) (n cap : Nat) (w : World) (hB : BytesAt w w.heap.size A n) (hn : n ≤ 100000) :
    Calls Try.prog 71 #[.slice A n cap] w (DrawnTT (fun s t => s.size ≤ 1000 ∧ t.size ≤ 1000) w) := by
  have H0 := Lib.hid (cur_new w A n cap hB hn)
  have b0 := Lib.hid ((Below.refl w.heap.size w).alloc (Nat.le_refl _) (.cells #[.slice A n cap, .int .i64 0, .int .u64 0] 93))
  have HW := Lib.hid (hB.keep b0.out)
  clear hB
  go_enter Try.func71, Try.ntmps71
  go_wp2_with fail
  refine (c_DrawWordsOf A n cap _ (HW.out.more b0.out.size) hn).mono ?_
  rintro e w1 ⟨s, rfl, hs, b1⟩
  have H1 := Lib.hid (H0.out.keep b1 H0.out.inside)
  have B1 := Lib.hid (b0.out.trans (b1.mono b0.out.size))
  clear b1
  go_wp2_with fail
  refine (c_of w.heap.size 0 (w1.heap.size + 1) 5 (fun s => s.size ≤ 1000) _ _ _ _ (H1.out.push _) (by omega) (lies_lit w1 _ _) (by simp) (ne_new H1.out.inside) (by rfl) (by decide) (by decide) ?_).mono ?_
  · intro v hv
    simp only [List.mem_cons, List.not_mem_nil, or_false] at hv
    rcases hv with rfl | rfl | rfl | rfl | rfl
    all_goals exact ⟨_, rfl, by decide⟩
  rintro e w2 ⟨t, rfl, ht, k2, g2⟩
  have B2 := Lib.hid (below_cur (B1.out.alloc B1.out.size _) (Nat.le_refl _) g2)
  clear k2 g2
  go_wp2
  go_ret2
  exact ⟨s, t, rfl, ⟨by omega, ht⟩, B2.out⟩
end Go.Proofs.Ytkoccbjeoihbiaa
