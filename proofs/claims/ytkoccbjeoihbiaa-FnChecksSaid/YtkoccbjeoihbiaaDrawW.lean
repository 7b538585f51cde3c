/- The reference's draws of words, lists of words, texts: what is drawn lies in its range. -/
import Derived.Test.YtkoccbjeoihbiaaDrawS
import Derived.Test.YtkoccbjeoihbiaaLists
namespace Go.Proofs.Ytkoccbjeoihbiaa
open Go.RowKit
set_option linter.unusedVariables false
set_option maxRecDepth 100000

theorem Ints.pre {w : World} {H : Nat} {A : Option Addr} {xs ys : List Int} (h : Ints w H A (xs ++ ys)) : Ints w H A xs := fun hn => by
  obtain ⟨ad, e, hb, hc⟩ := h (by simp at hn ⊢; omega)
  refine ⟨ad, e, hb, fun j u hu => hc j u ?_⟩
  rw [List.map_append, List.getElem?_append_left (List.getElem?_eq_some_iff.1 hu).1]
  exact hu
def word_rng (x : Int) : Prop := -1 ≤ x ∧ x ≤ 65536
set_option maxHeartbeats 1000000 in
theorem c_word (b N : Nat) (w : World) (h : Cur w b N) (hN : N ≤ 900000) :
    Calls Try.prog 135 #[.pointer (some ⟨b, 0, none⟩)] w (Draws b (N + 4) word_rng w) := by
  have H := Lib.hid h
  have HI := Lib.hid (ints_lit w [0, 1, 255, 256, 4660, 32768, 65534, 65535, -1, 65536])
  clear h
  go_enter Try.func135, Try.ntmps135
  go_wp2_with fail
  refine (c_pick b N 40 _ (H.out.push _) (by omega) (by omega) (by omega)).mono ?_
  rintro e w1 ⟨y, rfl, ⟨hy0, hy1⟩, k1, g1⟩
  have H1 := Lib.hid k1
  have G1 := Lib.hid (grown_trans (grown_alloc w _ _) g1)
  have HI1 := Lib.hid (HI.out.far g1 (by simp) (ne_new H.out.inside))
  have S1 := Lib.hid (show w.heap.size + 1 ≤ w1.heap.size by have := g1.size; simpa using this)
  clear k1 g1
  by_cases hy : y < 38
  · have e : y / 38 = 0 := by omega
    go_wp2_with fail
    refine (c_among b (N + 2) (w.heap.size + 1) word_rng _ _ [0, 1, 255, 256, 4660, 32768, 65534, 65535] _ H1.out (by omega) (HI1.out.pre (ys := [-1, 65536])) S1.out (ne_new H.out.inside) (by decide) (by decide) (by unfold word_rng; decide)).mono ?_
    rintro e w2 ⟨z, rfl, hz, k2, g2⟩
    have H2 := Lib.hid k2
    have G2 := Lib.hid (grown_trans G1.out g2)
    have HZ := Lib.hid hz
    clear k2 g2 hz
    go_wp2
    go_ret
    exact ⟨_, rfl, HZ.out, H2.out, G2.out⟩
  · have e : y / 38 = 1 := by omega
    go_wp2_with fail
    refine (c_among b (N + 2) (w.heap.size + 1) word_rng _ _ [0, 1, 255, 256, 4660, 32768, 65534, 65535, -1] _ H1.out (by omega) (HI1.out.pre (ys := [65536])) S1.out (ne_new H.out.inside) (by decide) (by decide) (by unfold word_rng; decide)).mono ?_
    rintro e w2 ⟨z, rfl, hz, k2, g2⟩
    have H2 := Lib.hid k2
    have G2 := Lib.hid (grown_trans G1.out g2)
    have HZ := Lib.hid hz
    clear k2 g2 hz
    go_wp2
    go_ret
    exact ⟨_, rfl, HZ.out, H2.out, G2.out⟩
/-- A list that is drawn. -/
def DrawsL (b N len : Nat) (P : Int → Prop) (w : World) (e : Ending) (w' : World) : Prop :=
  ∃ (A : Option Addr) (cap : Nat) (zs : List Int), e = .returned (.slice A zs.length cap) ∧ zs.length ≤ len ∧ (∀ z ∈ zs, P z) ∧ Cur w' b N ∧ OwnI w' w.heap.size A cap zs ∧ w.grownBy w' (some b)
/-- A list that a call drew. -/
def DrawnL (len : Nat) (P : Int → Prop) (w : World) (e : Ending) (w' : World) : Prop :=
  ∃ (A : Option Addr) (cap : Nat) (zs : List Int), e = .returned (.slice A zs.length cap) ∧ zs.length ≤ len ∧ (∀ z ∈ zs, P z) ∧ OwnI w' w.heap.size A cap zs ∧ Below w.heap.size w w'
theorem mem_snoc {P : Int → Prop} {zs : List Int} {z : Int} (h : ∀ x ∈ zs, P x) (hz : P z) : ∀ x ∈ zs ++ [z], P x := fun x hx => by
  rcases List.mem_append.1 hx with h1 | h1
  · exact h x h1
  · simp at h1
    subst h1
    exact hz
theorem OwnI.cur {w w' : World} {B b cap : Nat} {A : Option Addr} {zs : List Int} (h : OwnI w B A cap zs) (hg : w.grownBy w' (some b)) (hb : b < B) : OwnI w' B A cap zs :=
  h.far hg (T := b + 1) (fun k hk => by cases hk; exact Nat.lt_succ_self _) hb
theorem grown_then {a w w' : World} {row : Option Nat} {H : Nat} (h : a.grownBy w row) (k : Below H w w') (hH : a.heap.size ≤ H) : a.grownBy w' row :=
  ⟨k.os.trans h.os, k.tape.trans h.tape, k.output.trans h.output, Nat.le_trans h.size k.size, fun i hi hne => (k.block i (by omega)).trans (h.block i hi hne)⟩
set_option maxHeartbeats 4000000 in
theorem c_wordList (b N : Nat) (w : World) (h : Cur w b N) (hN : N ≤ 800000) :
    Calls Try.prog 134 #[.pointer (some ⟨b, 0, none⟩)] w (DrawsL b (N + 200) 60 word_rng w) := by
  have HIN := Lib.hid h.inside
  have H := Lib.hid (h.push (.cells #[] 3))
  have HE := Lib.hid (OwnI.empty w w.heap.size (Nat.le_refl _))
  have HG := Lib.hid (grown_alloc w (.cells #[] 3) (some b))
  clear h
  go_enter Try.func134, Try.ntmps134
  go_wp2_with fail
  refine (c_pick b N 8 _ H.out (by omega) (by omega) (by omega)).mono ?_
  rintro e w1 ⟨y, rfl, ⟨hy0, hy1⟩, k1, g1⟩
  obtain ⟨n0, rfl⟩ : ∃ n : Nat, y = (n : Int) := ⟨y.toNat, by omega⟩
  have hn0 : n0 ≤ 8 := by omega
  have H1 := Lib.hid k1
  have G1 := Lib.hid (grown_trans HG.out g1)
  have O1 := Lib.hid (HE.out.cur g1 HIN.out)
  clear k1 g1 hy0 hy1 HE HG H
  go_wp2
  go_loopw [3, 4] (fun v i wr => ∃ (k M : Nat) (A : Option Addr) (cap : Nat) (zs : List Int), k ≤ 8 ∧ i = .int .i64 k ∧ v = .slice A zs.length cap ∧ zs.length + k ≤ 8 ∧ Hid (∀ z ∈ zs, word_rng z) ∧ M + 4 * k ≤ N + 40 ∧ Hid (Cur wr b M) ∧ Hid (OwnI wr w.heap.size A cap zs) ∧ Hid (w.grownBy wr (some b))) (fun _ i _ => (intOf i).toNat)
  case atStart => exact ⟨n0, N + 2, _, _, [], hn0, rfl, rfl, by simpa using hn0, Lib.hid (by simp), by omega, H1, O1, G1⟩
  case round =>
    clear H1 G1 O1
    obtain ⟨k, M, A, cap, zs, hk, rfl, rfl, hlen, HP, hM, HC, HO, HGR⟩ := hrel
    by_cases hk0 : 0 < k
    · go_wp2_with fail
      refine (c_word b M _ HC.out (by omega)).mono ?_
      rintro e w2 ⟨z, rfl, hz, k2, g2⟩
      have H2 := Lib.hid k2
      have G2 := Lib.hid (grown_trans HGR.out g2)
      have O2 := Lib.hid (HO.out.cur g2 HIN.out)
      have HZ := Lib.hid hz
      have S2 := Lib.hid (show w.heap.size ≤ w2.heap.size from G2.out.size)
      clear k2 g2 hz HC HO HGR
      have hce : (w2.alloc (.cells #[.int .i64 z] 3)).cell? ((⟨w2.heap.size, 0, none⟩ : Addr).add 0) = some (.int .i64 z) := by rw [add_zero']; exact new1_cell _ _ _
      go_wp2_with (at_builtin; refine wpList_appI _ rfl _ _ rfl w.heap.size A cap zs rfl (O2.out.push _) z _ rfl hce (by omega) (by have := S2.out; simp; omega) ?_; intro A' cap' w3 o3 b3)
      have O3 := Lib.hid o3
      have G3 := Lib.hid (grown_then (grown_trans G2.out (grown_alloc _ _ _)) b3 (Nat.le_refl _))
      have H3 := Lib.hid ((H2.out.push (.cells #[.int .i64 z] 3)).keep b3 HIN.out)
      have HP3 := Lib.hid (mem_snoc HP.out HZ.out)
      clear o3 b3 hce H2 G2 O2 HP HZ S2
      go_wp2
      go_roundw
      case rel => exact ⟨k - 1, M + 4, A', cap', zs ++ [z], by omega, by go_num, by simp, by simp; omega, HP3, by omega, H3, O3, G3⟩
      case measure => simp [intOf]; omega
    · obtain rfl : k = 0 := by omega
      go_wp2_with fail
      refine (c_one b M 24 _ HC.out (by omega) (by omega) (by omega)).mono ?_
      rintro e w2 ⟨y, rfl, k2, g2⟩
      have H2 := Lib.hid k2
      have G2 := Lib.hid (grown_trans HGR.out g2)
      have O2 := Lib.hid (HO.out.cur g2 HIN.out)
      clear k2 g2 HC HO HGR
      cases y
      · go_wp2
        go_ret
        exact ⟨A, cap, zs, rfl, by omega, HP.out, H2.out.more (by omega), O2.out, G2.out⟩
      · go_wp2
        go_loopw [3] (fun v wr => ∃ (m M : Nat) (A : Option Addr) (cap : Nat) (zs : List Int), v = .slice A zs.length cap ∧ zs.length ≤ 41 ∧ m + zs.length = 41 ∧ Hid (∀ z ∈ zs, word_rng z) ∧ M + 2 * m ≤ N + 190 ∧ Hid (Cur wr b M) ∧ Hid (OwnI wr w.heap.size A cap zs) ∧ Hid (w.grownBy wr (some b))) (fun v _ => match v with | .slice _ n _ => 41 - n | _ => 0)
        case atStart => exact ⟨41 - zs.length, M + 2, A, cap, zs, rfl, by omega, by omega, HP, by omega, H2, O2, G2⟩
        case round =>
          clear H2 G2 O2 HP
          obtain ⟨m, M', A, cap, zs, rfl, hle, hm, HP, hM', HC, HO, HGR⟩ := hrel
          go_wp2_with fail
          refine (c_pick b M' 3 _ HC.out (by omega) (by omega) (by omega)).mono ?_
          rintro e w3 ⟨y, rfl, ⟨hy0, hy1⟩, k3, g3⟩
          have H3 := Lib.hid k3
          have G3 := Lib.hid (grown_trans HGR.out g3)
          have O3 := Lib.hid (HO.out.cur g3 HIN.out)
          have S3 := Lib.hid (show w.heap.size ≤ w3.heap.size from G3.out.size)
          have hy2 : y < 3 := by omega
          clear k3 g3 HC HO HGR hy1
          by_cases hlt : (zs.length : Int) < 39 + y
          · have hce : (w3.alloc (.cells #[.int .i64 7] 3)).cell? ((⟨w3.heap.size, 0, none⟩ : Addr).add 0) = some (.int .i64 7) := by rw [add_zero']; exact new1_cell _ _ _
            go_wp2_with (at_builtin; refine wpList_appI _ rfl _ _ rfl w.heap.size A cap zs rfl (O3.out.push _) 7 _ rfl hce (by omega) (by have := S3.out; simp; omega) ?_; intro A' cap' w4 o4 b4)
            have O4 := Lib.hid o4
            have G4 := Lib.hid (grown_then (grown_trans G3.out (grown_alloc _ _ _)) b4 (Nat.le_refl _))
            have H4 := Lib.hid ((H3.out.push (.cells #[.int .i64 7] 3)).keep b4 HIN.out)
            have HP4 := Lib.hid (mem_snoc (z := 7) HP.out (by unfold word_rng; decide))
            clear o4 b4 hce H3 G3 O3 HP S3
            go_wp2
            go_roundw
            case rel => exact ⟨m - 1, M' + 2, A', cap', zs ++ [7], by simp, by simp; omega, by simp; omega, HP4, by omega, H4, O4, G4⟩
            case measure => simp; omega
          · go_wp2
            go_ret
            exact ⟨A, cap, zs, rfl, by omega, HP.out, H3.out.more (by omega), O3.out, G3.out⟩
end Go.Proofs.Ytkoccbjeoihbiaa
