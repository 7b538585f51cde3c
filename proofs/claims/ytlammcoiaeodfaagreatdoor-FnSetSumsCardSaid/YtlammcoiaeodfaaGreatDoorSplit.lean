/- Texts cut at a byte: the reference's loop, the program's call. -/
import Derived.Test.YtlammcoiaeodfaaGreatDoorLib
namespace Go.Proofs.YtlammcoiaeodfaaGreatDoor
open Go.RowKit
open Go.Lib (itoa decDigits)
set_option linter.unusedVariables false
set_option maxRecDepth 100000

theorem size_list (s : ByteArray) : s.data.toList.length = s.size := Array.length_toList
theorem get_list (s : ByteArray) (k : Nat) (h : k < s.size) : s.data.toList[k]? = some s[k] := by
  rw [List.getElem?_eq_getElem (by rw [size_list]; exact h)]; rfl
theorem extract_str (s : ByteArray) (a b : Nat) : s.extract a b = str ((s.data.toList.drop a).take (b - a)) := Lib.extract_eq s a b
theorem extract_end (s : ByteArray) (a : Nat) : s.extract a s.size = str (s.data.toList.drop a) := by
  rw [extract_str, List.take_of_length_le]
  rw [List.length_drop, size_list]
  exact Nat.le_refl _
/-- A text of one byte. -/
theorem one_byte (s : ByteArray) (h : s.size = 1) : ∃ b, s = str [b] := by
  obtain ⟨⟨l⟩⟩ := s
  match l, h with
  | [b], _ => exact ⟨b, rfl⟩
/-- The cutting loop's state: k bytes read, the piece begun at f, the pieces xs done. -/
def SplSt (b : UInt8) (l : List UInt8) (k f : Nat) (xs : List (List UInt8)) : Prop := f ≤ k ∧ xs ++ spl b (l.drop f) = spl b l ∧ b ∉ (l.drop f).take (k - f)
theorem SplSt.start (b : UInt8) (l : List UInt8) : SplSt b l 0 0 [] := ⟨Nat.le_refl _, by simp, by simp⟩
theorem SplSt.hit {b : UInt8} {l : List UInt8} {k f : Nat} {xs : List (List UInt8)} (h : SplSt b l k f xs) (hk : l[k]? = some b) : SplSt b l (k + 1) (k + 1) (xs ++ [(l.drop f).take (k - f)]) := by
  obtain ⟨h1, h2, h3⟩ := h
  refine ⟨Nat.le_refl _, ?_, by simp⟩
  obtain ⟨hlt, e⟩ := List.getElem?_eq_some_iff.1 hk
  have hs : l.drop f = (l.drop f).take (k - f) ++ b :: l.drop (k + 1) := by
    conv => lhs; rw [← List.take_append_drop (k - f) (l.drop f)]
    rw [List.drop_drop, show f + (k - f) = k from by omega, List.drop_eq_getElem_cons hlt, e]
  rw [← h2]
  conv => rhs; rw [hs, spl_hit _ h3]
  simp
theorem SplSt.miss {b : UInt8} {l : List UInt8} {k f : Nat} {xs : List (List UInt8)} {c : UInt8} (h : SplSt b l k f xs) (hk : l[k]? = some c) (hc : c ≠ b) : SplSt b l (k + 1) f xs := by
  obtain ⟨h1, h2, h3⟩ := h
  refine ⟨by omega, h2, ?_⟩
  rw [show k + 1 - f = (k - f) + 1 from by omega, List.take_add_one, List.getElem?_drop, show f + (k - f) = k from by omega, hk]
  simp only [Option.toList_some, List.mem_append, List.mem_singleton]
  rintro (m | m)
  · exact h3 m
  · exact hc m.symm
theorem SplSt.fin {b : UInt8} {l : List UInt8} {f : Nat} {xs : List (List UInt8)} (h : SplSt b l l.length f xs) : xs ++ [l.drop f] = spl b l := by
  obtain ⟨h1, h2, h3⟩ := h
  rw [List.take_of_length_le (by simp)] at h3
  rw [← h2, spl_none h3]
theorem SplSt.len {b : UInt8} {l : List UInt8} {k f : Nat} {xs : List (List UInt8)} (h : SplSt b l k f xs) : xs.length ≤ l.length + 1 := by
  have := spl_len_le b l
  rw [← h.2.1, List.length_append] at this
  omega
theorem byte_eq (a b : UInt8) : ((a.toNat : Int) == (b.toNat : Int)) = decide (a = b) := by
  rw [Bool.eq_iff_iff, beq_iff_eq, decide_eq_true_eq, ← UInt8.toNat_inj]
  omega
set_option maxHeartbeats 1000000 in
theorem c_l1Split (s : ByteArray) (b : UInt8) (w : World) (hs : s.size ≤ 10000000) :
    Calls Tryz.prog 40 #[.string s, .int .u8 (b.toNat : Int)] w fun e w' => ∃ A cap, e = .returned (.slice A (spl b s.data.toList).length cap) ∧ OwnS w' w.heap.size A cap (spl b s.data.toList) ∧ Below w.heap.size w w' := by
  have HE := Lib.hid (OwnS.empty w w.heap.size (Nat.le_refl _))
  have bel : Below w.heap.size w (w.alloc (.cells #[] 9)) := (Below.refl _ _).alloc (Nat.le_refl _) _
  have HB0 := Lib.hid bel
  clear bel
  have hb255 := b.toNat_lt
  go_enter Tryz.func40, Tryz.ntmps40
  go_wp2
  go_loopw [5, 6, 7] (fun v fr i wr => ∃ (k f : Nat) (A : Option Addr) (cap : Nat) (xs : List (List UInt8)), k ≤ s.size ∧ i = .int .i64 k ∧ fr = .int .i64 f ∧ v = .slice A xs.length cap ∧ Hid (SplSt b s.data.toList k f xs) ∧ Hid (OwnS wr w.heap.size A cap xs) ∧ Hid (Below w.heap.size w wr)) (fun _ _ i _ => s.size - (intOf i).toNat)
  case atStart => exact ⟨0, 0, _, 0, [], Nat.zero_le _, rfl, rfl, rfl, Lib.hid (SplSt.start _ _), HE, HB0⟩
  case round =>
    clear HE HB0
    obtain ⟨k, f, A, cap, xs, hk, rfl, rfl, rfl, HS, HO, HB⟩ := hrel
    have hlx := HS.out.len
    rw [size_list] at hlx
    have hfk := HS.out.1
    have hsz := HB.out.size
    by_cases hlt : k < s.size
    · have hg := get_list s k hlt
      have hbe := byte_eq s[k] b
      by_cases hc : s[k] = b
      · have HN := Lib.hid (HS.out.hit (by rw [hg, hc]))
        rw [decide_eq_true hc] at hbe
        have hx := extract_str s f k
        clear HS hg hc
        generalize (s.data.toList.drop f).take (k - f) = z at *
        go_wp2_with (at_builtin; refine wpList_appS _ rfl _ _ rfl w.heap.size A cap xs rfl (HO.out.push _) z _ rfl (new1_cell _ _ _) (by omega) (by simp; omega) ?_; intro A2 c2 w2 o2 b2)
        have HO2 := Lib.hid o2
        have HB2 := Lib.hid ((HB.out.alloc hsz _).trans b2)
        clear o2 b2 HO HB
        go_wp2
        go_roundw
        case rel => exact ⟨k + 1, k + 1, A2, c2, xs ++ [z], by omega, by go_num, by go_num, by simp, HN, HO2, HB2⟩
        case measure => simp [intOf]; omega
      · have HN := Lib.hid (HS.out.miss hg hc)
        rw [decide_eq_false hc] at hbe
        clear HS hg hc
        go_wp2
        go_roundw
        case rel => exact ⟨k + 1, f, A, cap, xs, by omega, by go_num, rfl, rfl, HN, HO, HB⟩
        case measure => simp [intOf]; omega
    · obtain rfl : k = s.size := by omega
      have HF : Hid (xs ++ [s.data.toList.drop f] = spl b s.data.toList) := Lib.hid (by
        have := HS.out
        rw [← size_list] at this
        exact this.fin)
      have hx := extract_end s f
      clear HS
      generalize s.data.toList.drop f = z at *
      go_wp2_with (at_builtin; refine wpList_appS _ rfl _ _ rfl w.heap.size A cap xs rfl (HO.out.push _) z _ rfl (new1_cell _ _ _) (by omega) (by simp; omega) ?_; intro A2 c2 w2 o2 b2)
      rw [HF.out] at o2
      have HO2 := Lib.hid o2
      have HB2 := Lib.hid ((HB.out.alloc hsz _).trans b2)
      clear o2 b2 HO HB
      go_wp2
      go_ret
      exact ⟨A2, c2, by rw [← HF.out]; simp, HO2.out, HB2.out⟩
def splOk (s sep : ByteArray) : Bool := decide (s.size ≤ 4000) && decide (sep.size = 1)
def splR (s sep : ByteArray) : List (List UInt8) := if splOk s sep then spl (sep.data.toList.headD 0) s.data.toList else []
theorem splR_len (s sep : ByteArray) : (splR s sep).length ≤ 100000 := by
  unfold splR
  split
  · rename_i h
    simp only [splOk, Bool.and_eq_true, decide_eq_true_eq] at h
    have := spl_len_le (sep.data.toList.headD 0) s.data.toList
    rw [size_list] at this
    omega
  · simp
end Go.Proofs.YtlammcoiaeodfaaGreatDoor
