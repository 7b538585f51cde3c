/- A list of numbers' texts read, all or none. -/
import Derived.Test.YtpmfaiocmgkmpaaGreatDoorRead
import Derived.Test.YtpmfaiocmgkmpaaGreatDoorTwo
namespace Go.Proofs.YtpmfaiocmgkmpaaGreatDoor
open Go.RowKit
open Go.Lib
set_option linter.unusedVariables false
set_option maxRecDepth 100000

def allO {α β : Type} (f : α → Option β) : List α → Option (List β)
  | [] => some []
  | x :: t => match f x with | some y => (match allO f t with | some ys => some (y :: ys) | none => none) | none => none
theorem allO_map {α β : Type} {f : α → Option β} {g : β → α} : ∀ (l : List β), (∀ r ∈ l, f (g r) = some r) → allO f (l.map g) = some l
  | [], _ => rfl
  | x :: t, h => by
    simp only [List.map_cons, allO]
    rw [h x (by simp), allO_map t (fun r hr => h r (by simp [hr]))]
theorem allO_snoc {α β : Type} {f : α → Option β} (x : α) : ∀ (l : List α), allO f (l ++ [x]) = match allO f l with | some ys => (match f x with | some y => some (ys ++ [y]) | none => none) | none => none
  | [] => by
    simp only [List.nil_append, allO]
  | a :: t => by
    simp only [List.cons_append, allO]
    rw [allO_snoc x t]
    cases f a with
    | none => rfl
    | some y =>
      simp only []
      cases allO f t with
      | none => rfl
      | some ys => cases f x <;> rfl
theorem allO_len {α β : Type} {f : α → Option β} : ∀ {l : List α} {ys : List β}, allO f l = some ys → ys.length = l.length
  | [], ys, h => by simp [allO] at h; simp [← h]
  | x :: t, ys, h => by
    simp only [allO] at h
    cases hf : f x with
    | none => rw [hf] at h; cases h
    | some y =>
      rw [hf] at h
      simp only [] at h
      cases ht : allO f t with
      | none => rw [ht] at h; cases h
      | some zs =>
        rw [ht] at h
        injection h with h
        rw [← h, List.length_cons, List.length_cons, allO_len ht]
theorem allO_none {α β : Type} {f : α → Option β} {x : α} : ∀ {l : List α}, x ∈ l → f x = none → allO f l = none
  | [], h, _ => by simp at h
  | a :: t, h, hf => by
    simp only [allO]
    rcases List.mem_cons.1 h with rfl | h
    · rw [hf]
    · rw [allO_none h hf]
      cases f a <;> rfl
theorem allO_take {α β : Type} {f : α → Option β} {l : List α} {k : Nat} {L : List β} (hk : k < l.length) (h : allO f (l.take k) = some L) : allO f (l.take (k + 1)) = match f l[k] with | some y => some (L ++ [y]) | none => none := by
  rw [List.take_succ_eq_append_getElem hk, allO_snoc, h]
theorem allO_stop {α β : Type} {f : α → Option β} {l : List α} {k : Nat} (hk : k < l.length) (h : f l[k] = none) : allO f l = none := allO_none (List.getElem_mem hk) h
theorem digits_byte {u : Nat} {b : UInt8} (h : b ∈ decDigits u) : 48 ≤ b.toNat ∧ b.toNat ≤ 57 := by
  obtain ⟨k, hk⟩ := List.mem_iff_getElem?.1 h
  obtain ⟨d, hd⟩ := digit_of_decFrom _ _ _ (decFrom_digits u) k b hk
  have := digitVal_eq hd
  omega
theorem itoa_no {n : Int} (h : 0 ≤ n) {b : UInt8} (hb : b.toNat < 48) : b ∉ itoa n := by
  rw [itoa_pos' h]
  intro k
  have := digits_byte k
  omega
set_option maxHeartbeats 1000000 in
theorem c_parseInts {B H : Nat} (A : Option Addr) (cap : Nat) (xs : List (List UInt8)) (w : World) (hp : PowW w B) (hE : ErrW w B) (hB : B ≤ w.heap.size) (h : Strs w H A xs) (hH : H ≤ w.heap.size) (hx : ∀ x ∈ xs, x.length ≤ 10000000) (hl : xs.length ≤ 1000000) :
    Calls Tryz.prog 23 #[.slice A xs.length cap] w fun e w' => ∃ A' cap', e = .returned (.tuple #[.slice A' ((allO readI xs).getD []).length cap', .bool (allO readI xs).isSome]) ∧ OwnI w' w.heap.size A' cap' ((allO readI xs).getD []) ∧ Below w.heap.size w w' := by
  have HI := Lib.hid (h.more hH)
  have HP := Lib.hid hp
  have HE := Lib.hid hE
  have HX := Lib.hid hx
  have S := Lib.hid (OwnI.nil w w.heap.size)
  clear h hp hE hx
  go_enter Tryz.func23, Tryz.ntmps23
  go_wp2
  go_loopw [4, 11] (fun v i wr => ∃ (k : Nat) (vs : List Int) (A1 : Option Addr) (c1 : Nat), k ≤ xs.length ∧ i = .int .i64 k ∧ v = .slice A1 vs.length c1 ∧ Hid (allO readI (xs.take k) = some vs) ∧ Hid (OwnI wr w.heap.size A1 c1 vs) ∧ Hid (Below w.heap.size w wr)) (fun _ i _ => xs.length - (RowKit.intOf i).toNat)
  case atStart => exact ⟨0, [], none, 0, Nat.zero_le _, rfl, rfl, Lib.hid rfl, S, Lib.hid (Below.refl _ _)⟩
  case round =>
    clear S
    obtain ⟨k, vs, A1, c1, hk, rfl, rfl, HV, HO, HB⟩ := hrel
    have hvl : vs.length ≤ k := by have := allO_len HV.out; rw [List.length_take] at this; omega
    have hsz := HB.out.size
    by_cases hlt : k < xs.length
    · obtain ⟨ad, rfl, hadb, hc⟩ := (HI.out.keep HB.out).at_ hlt
      have hi : (k : Int) < (xs.length : Int) := by omega
      have hxk : xs.getD k [] = xs[k] := by simp [hlt]
      rw [hxk] at hc
      have hxl := HX.out xs[k] (List.getElem_mem hlt)
      have C := c_implParseInt (str xs[k]) wr (HP.out.keep HB.out hB) (HE.out.keep HB.out hB) (by omega) (by rw [str_size]; exact hxl)
      rw [list_str] at C
      have HT := Lib.hid (allO_take hlt HV.out)
      have HS := Lib.hid (fun hn => allO_stop (f := readI) hlt hn)
      clear hxk HI
      cases hr : readI xs[k] with
      | none =>
        obtain ⟨e1, e2⟩ := rd_none hr
        rw [e1, e2] at C
        have HC := Lib.hid C
        have HN := Lib.hid (HS.out hr)
        clear C e1 e2 hr HT HS hxl
        generalize str xs[k] = x at *
        go_wp2_with fail
        refine HC.out.mono ?_
        rintro e w2 ⟨rfl, b2⟩
        have HB2 := Lib.hid (HB.out.trans (b2.mono hsz))
        have HE2 := Lib.hid (OwnI.nil w2 w.heap.size)
        clear b2 HC
        go_wp2
        go_ret2
        exact ⟨none, 0, by rw [HN.out]; rfl, by rw [HN.out]; exact HE2.out, HB2.out⟩
      | some n =>
        obtain ⟨e1, e2⟩ := rd_some hr
        rw [e1, e2] at C
        have HC := Lib.hid C
        have HN : Hid (allO readI (xs.take (k + 1)) = some (vs ++ [n])) := Lib.hid (by rw [HT.out, hr])
        clear C e1 e2 hr HT HS hxl
        generalize str xs[k] = x at *
        go_wp2_with fail
        refine HC.out.mono ?_
        rintro e w2 ⟨rfl, b2⟩
        have HO2 := Lib.hid (HO.out.keep (b2.mono (Nat.le_refl _)))
        have HB2 := Lib.hid (HB.out.trans (b2.mono hsz))
        have s2 := HB2.out.size
        clear b2 HC hc HO HB
        go_wp2_with (at_builtin; refine wpList_appI _ rfl _ _ rfl w.heap.size A1 c1 vs rfl (HO2.out.push _) n _ rfl (new1_cell _ _ _) (by omega) (by simp; omega) ?_; intro A3 c3 w3 o3 b3)
        have HO3 := Lib.hid o3
        have HB3 := Lib.hid ((HB2.out.alloc s2 _).trans b3)
        clear o3 b3 HO2 HB2
        go_wp2
        go_roundw
        case rel => exact ⟨k + 1, vs ++ [n], A3, c3, by omega, by go_num, by simp, HN, HO3, HB3⟩
        case measure => simp [RowKit.intOf]; omega
    · obtain rfl : k = xs.length := by omega
      have HN : Hid (allO readI xs = some vs) := Lib.hid (by have := HV.out; rwa [List.take_length] at this)
      go_wp2
      go_ret2
      exact ⟨A1, c1, by rw [HN.out]; rfl, by rw [HN.out]; exact HO.out, HB.out⟩
end Go.Proofs.YtpmfaiocmgkmpaaGreatDoor
