/- Digits read: the reference's loop over the sixteen, the program's strings.IndexByte; the octets of a text. -/
import Derived.Test.YtnabiehbecojlaaDoorEncI
import Derived.Test.YtnabiehbecojlaaDoorLib
namespace Go.Proofs.YtnabiehbecojlaaDoor
open Go.RowKit
set_option linter.unusedVariables false
set_option maxRecDepth 100000

theorem ret_int {a b : Int} (h : a = b) : Ending.returned (.int .i64 a) = .returned (.int .i64 b) := by rw [h]
theorem run_index_str (l : List UInt8) (m : Nat) (i : Int) (hi : i = (m : Int)) (h : m < l.length) (W : World) : (Instr.index 9 (.string (str l)) (.int .i64 i)).run Tryd.prog W = .ok (.int .u8 ((l.getD m 0).toNat : Int)) W := by
  subst hi
  rw [run_index_string (P := Tryd.prog) W 9 _ .i64 (m : Int) Tryd.underlying9, dif_pos ⟨by omega, by rw [str_size]; omega⟩]
  have : ∀ (h2), (str l)[m]'h2 = l.getD m 0 := fun h2 => by
    rw [List.getD_eq_getElem?_getD, List.getElem?_eq_getElem h]
    rfl
  simp only [Int.toNat_natCast, this]
theorem digI_all (b : UInt8) (h : ∀ m : Nat, m < 16 → hx m ≠ b) : digI b = -1 := by
  have hr := digI_rng b
  by_cases h0 : 0 ≤ digI b
  · exfalso
    exact h (digI b).toNat (by omega) (hx_digI b h0)
  · omega
set_option maxHeartbeats 1000000 in
theorem c_l4Digit (b : UInt8) (w : World) :
    Calls Tryd.prog 55 #[.int .u8 (b.toNat : Int)] w fun e w' => e = .returned (.int .i64 (digI b)) ∧ w = w' := by
  go_enter Tryd.func55, Tryd.ntmps55
  go_wp2
  go_loopw [3] (fun i wr => ∃ j : Nat, j ≤ 16 ∧ i = .int .i64 j ∧ Hid (w = wr) ∧ Hid (∀ m : Nat, m < j → hx m ≠ b)) (fun i _ => 16 - (intOf i).toNat)
  case atStart => exact ⟨0, by omega, rfl, Lib.hid rfl, Lib.hid (fun m h => absurd h (by omega))⟩
  case round =>
    obtain ⟨j, hj, rfl, HW, HA⟩ := hrel
    by_cases hlt : j < 16
    · have s1 := run_hexi j hlt
      by_cases hq : hx j = b
      · have HD := Lib.hid ((digI_at b j hlt).1 hq)
        subst hq
        go_wp2
        go_ret
        exact ⟨ret_int HD.out.symm, HW.out⟩
      · have hne : (((hx j).toNat : Int) == (b.toNat : Int)) = false := by
          rw [Bool.eq_false_iff]
          intro e
          rw [beq_iff_eq] at e
          exact hq (UInt8.toNat_inj.1 (by omega))
        have HQ := Lib.hid hq
        clear hq
        go_wp2
        go_roundw
        case rel => exact ⟨j + 1, by omega, by go_num, HW, Lib.hid (fun m hm => by
          rcases Nat.lt_succ_iff_lt_or_eq.1 hm with h | rfl
          · exact HA.out m h
          · exact HQ.out)⟩
        case measure => simp [intOf]; omega
    · obtain rfl : j = 16 := by omega
      have HD := Lib.hid (digI_all b HA.out)
      go_wp2
      go_ret
      exact ⟨ret_int HD.out.symm, HW.out⟩
theorem index_hex (b : UInt8) : Lib.indexByte [48, 49, 50, 51, 52, 53, 54, 55, 56, 57, 65, 66, 67, 68, 69, 70] b = digI b := by
  have : ∀ m : Fin 256, Lib.indexByte [48, 49, 50, 51, 52, 53, 54, 55, 56, 57, 65, 66, 67, 68, 69, 70] (UInt8.ofNat m.val) = digI (UInt8.ofNat m.val) := by decide +kernel
  have h2 := this ⟨b.toNat, b.toNat_lt⟩
  simpa only [UInt8.ofNat_toNat] using h2
theorem c_indexHex (b : UInt8) (w : World) :
    Calls Tryd.prog 56 #[.string ⟨#[48, 49, 50, 51, 52, 53, 54, 55, 56, 57, 65, 66, 67, 68, 69, 70]⟩, .int .u8 (b.toNat : Int)] w fun e w' => e = .returned (.int .i64 (digI b)) ∧ w = w' :=
  (Tryd.strings_IndexByte ⟨#[48, 49, 50, 51, 52, 53, 54, 55, 56, 57, 65, 66, 67, 68, 69, 70]⟩ (b.toNat : Int) w).mono fun e w' ⟨he, hw⟩ => ⟨by
    rw [he, ← index_hex b]
    have : (b.toNat : Int).toNat.toUInt8 = b := by simp
    rw [this], hw.symm⟩
def unz (l : List UInt8) : List Int := (unhex l).getD []
def unOk (l : List UInt8) : Bool := (unhex l).isSome
theorem un_bad {l : List UInt8} (h : unhex l = none) : unz l = [] ∧ unOk l = false := by simp [unz, unOk, h]
theorem un_good {l : List UInt8} {zs : List Int} (h : unhex l = some zs) : unz l = zs ∧ unOk l = true := by simp [unz, unOk, h]
def octJs (l : List UInt8) (j : Nat) : List Int := (List.range j).map (octAt l)
theorem octJs_length (l : List UInt8) (j : Nat) : (octJs l j).length = j := by simp [octJs]
theorem octJs_snoc (l : List UInt8) (j : Nat) : octJs l (j + 1) = octJs l j ++ [octAt l j] := by simp [octJs, List.range_succ]
def badAt (l : List UInt8) (k : Nat) : Prop := digI (l.getD (2 * k) 0) < 0 ∨ digI (l.getD (2 * k + 1) 0) < 0
set_option maxHeartbeats 4000000 in
theorem c_decodeOctets (l : List UInt8) (w : World) (hl : l.length ≤ 10000000) :
    Calls Tryd.prog 31 #[.string (str l)] w fun e w' => ∃ A cap, e = .returned (.tuple #[.slice A (unz l).length cap, .bool (unOk l)]) ∧ OwnI w' w.heap.size A cap (unz l) ∧ Below w.heap.size w w' := by
  have hsz : (str l).size = l.length := str_size l
  obtain ⟨n, hn⟩ : ∃ n, l.length / 2 = n := ⟨_, rfl⟩
  by_cases hodd : l.length % 2 = 1
  · obtain ⟨e1, e2⟩ := un_bad (unhex_odd l.length l (Nat.le_refl _) hodd)
    rw [e1, e2]
    have hm : ((l.length : Int)).tmod 2 = 1 := by rw [Int.tmod_eq_emod_of_nonneg (by omega)]; omega
    clear hodd hn e1 e2
    go_enter Tryd.func31, Tryd.ntmps31
    go_wp2
    go_ret2
    exact ⟨_, _, rfl, OwnI.nil _ _, Below.refl _ _⟩
  have hm : ((l.length : Int)).tmod 2 = 0 := by rw [Int.tmod_eq_emod_of_nonneg (by omega)]; omega
  have HL : Hid (l.length = 2 * n) := Lib.hid (by omega)
  have C := fun b W => Lib.hid (c_indexHex b W)
  have l1 : l.length ≤ 2 * n := by omega
  have l2 : 2 * n ≤ l.length := by omega
  clear hodd hn
  go_enter Tryd.func31, Tryd.ntmps31
  go_wp2
  go_loopw [4, 5] (fun v i wr => ∃ j m : Nat, j ≤ n ∧ i = .int .i64 m ∧ Hid (m = 2 * j) ∧ ∃ A cap, v = .slice A j cap ∧ Hid (OwnI wr w.heap.size A cap (octJs l j) ∧ Below w.heap.size w wr ∧ ∀ k, k < j → ¬ badAt l k)) (fun _ i _ => l.length + 1 - (intOf i).toNat)
  case atStart => exact ⟨0, 0, Nat.zero_le _, rfl, Lib.hid rfl, none, 0, rfl, Lib.hid ⟨OwnI.nil _ _, Below.refl _ _, fun k h => absurd h (by omega)⟩⟩
  case round =>
    obtain ⟨j, m, hj, rfl, hmj, A, cap, rfl, HB⟩ := hrel
    have m1 : m ≤ 2 * j := Nat.le_of_eq hmj.out
    have m2 : 2 * j ≤ m := Nat.le_of_eq hmj.out.symm
    by_cases hlt : j < n
    · have s1 := run_index_str l m m rfl (by omega)
      have s2 := run_index_str l (m + 1) ((m : Int) + 1) (by omega) (by omega)
      have w1 : IntKind.i64.wrap ((m : Int) + 1) = (m : Int) + 1 := IntWalk.i64_in _ (by omega)
      have w2 : IntKind.i64.wrap ((m : Int) + 2) = (m : Int) + 2 := IntWalk.i64_in _ (by omega)
      have hi : (m : Int) < (l.length : Int) := by omega
      have HO : Hid (octAt l j = 16 * digI (l.getD m 0) + digI (l.getD (m + 1) 0)) := Lib.hid (by unfold octAt; rw [hmj.out])
      have HBad : Hid (badAt l j ↔ digI (l.getD m 0) < 0 ∨ digI (l.getD (m + 1) 0) < 0) := Lib.hid (by unfold badAt; rw [hmj.out])
      have HUB := Lib.hid (fun h => un_bad (unhex_bad j l (by omega) h))
      rw [← hmj.out] at HUB
      have r1 := digI_rng (l.getD m 0)
      have r2 := digI_rng (l.getD (m + 1) 0)
      have C1 := fun W => C (l.getD m 0) W
      have C2 := fun W => C (l.getD (m + 1) 0) W
      clear C
      generalize l.getD m 0 = x at *
      generalize l.getD (m + 1) 0 = y at *
      generalize digI x = a at *
      generalize digI y = b at *
      have HLJ := Lib.hid (octJs_length l j)
      have HN := Lib.hid (octJs_snoc l j)
      go_wp2_with fail
      go_quiet (first | (go_at_call 56; exact quiet_left (C1 _).out) | (go_at_call 56; exact quiet_left (C2 _).out))
      by_cases ha : a < 0
      · have HE := Lib.hid (HUB.out (.inl ha))
        clear HUB HBad
        go_wp2
        go_ret2
        rw [HE.out.1, HE.out.2]
        exact ⟨_, _, rfl, OwnI.nil _ _, below_dr HB.out.2.1 _⟩
      by_cases hb : b < 0
      · have HE := Lib.hid (HUB.out (.inr hb))
        clear HUB HBad
        go_wp2
        go_ret2
        rw [HE.out.1, HE.out.2]
        exact ⟨_, _, rfl, OwnI.nil _ _, below_dr HB.out.2.1 _⟩
      have v1 : IntKind.i64.wrap (16 * a) = 16 * a := IntWalk.i64_in _ (by omega)
      have v2 : IntKind.i64.wrap (16 * a + b) = 16 * a + b := IntWalk.i64_in _ (by omega)
      have HB' := Lib.hid (fun n => HB.out.1.keep (below_dr (Below.refl _ wr) n))
      have hs := HB.out.2.1.size
      have HG : Hid (¬ badAt l j) := Lib.hid (fun h => by
        rcases HBad.out.1 h with h | h
        · exact ha h
        · exact hb h)
      clear HUB HBad
      go_wp2_with (at_builtin; refine wpList_appI _ rfl _ _ rfl w.heap.size A cap (octJs l j) (by rw [HLJ.out]; rfl) ((HB'.out _).push _) _ _ rfl (new1_cell _ _ _) (by rw [HLJ.out]; omega) (by simp; omega) ?_; rw [HLJ.out]; intro A2 c2 w3 o2 b2)
      rw [← HO.out, ← HN.out] at o2
      have HB2 := Lib.hid (HB.out.2.1.trans (((below_dr (Below.refl w.heap.size wr) _).alloc hs _).trans b2))
      have HO2 := Lib.hid o2
      clear o2 b2 HB'
      go_wp2
      go_roundw
      case rel => exact ⟨j + 1, m + 2, by omega, by go_num, Lib.hid (by rw [hmj.out]; omega), A2, c2, by go_num, Lib.hid ⟨HO2.out, HB2.out, fun k hk => by
        rcases Nat.lt_succ_iff_lt_or_eq.1 hk with h | rfl
        · exact HB.out.2.2 k h
        · exact HG.out⟩⟩
      case measure => simp [intOf]; omega
    · obtain rfl : j = n := by omega
      obtain ⟨e1, e2⟩ := un_good (unhex_all j l HL.out HB.out.2.2)
      have hmm : ¬ (m : Int) < (l.length : Int) := by omega
      have HJ : Hid (OwnI wr w.heap.size A cap (octJs l j)) := Lib.hid HB.out.1
      have hbb := HB.out.2.1
      have HLJ := Lib.hid (octJs_length l j)
      have HE := Lib.hid (And.intro e1 e2)
      clear e1 e2 HB
      go_wp2
      go_ret2
      rw [HE.out.1, HE.out.2, show (List.range j).map (octAt l) = octJs l j from rfl, HLJ.out]
      exact ⟨_, _, rfl, HJ.out, hbb⟩
end Go.Proofs.YtnabiehbecojlaaDoor
