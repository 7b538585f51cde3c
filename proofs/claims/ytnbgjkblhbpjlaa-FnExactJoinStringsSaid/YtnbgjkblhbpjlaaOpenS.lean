/- A list of texts that came in, opened; its size as the laws reckon it. -/
import Derived.Test.YtnbgjkblhbpjlaaRows
import Derived.Test.YtnbgjkblhbpjlaaStrs
import Derived.Test.YtnbgjkblhbpjlaaSplitL
import Derived.ProofKit
import Derived.OpenShut
import Derived.Deep.Strs
import Derived.Deep.Slices
import Derived.Test.YtnbgjkblhbpjlaaOpen
import Derived.Handy
namespace Go.Proofs.Ytnbgjkblhbpjlaa
open Go.ChangeShapes Go.WideShapes Go.ChangeAt Go.RowKit Go.Deep Go.Joins
set_option linter.unusedVariables false
set_option maxRecDepth 100000

section
variable {H : Type} {enc : TypeId × Value → H} {W : World} {b base : Nat} {spare : Nat → Bool} {held : Bool} {v : Value} {d : DataW H} {p : List MemPlace}
theorem strs_of_trod {fuel : Nat} {c : Value} {x : DataW H × List MemPlace} (h : DataW.trod enc Try.prog W base (fun _ => true) held fuel 22 [c] = some x) :
    ∃ (A : Option Addr) (cap : Nat) (xs : List (List UInt8)), c = .slice A xs.length cap ∧ Strs W W.heap.size A xs ∧ xs.length ≤ 9223372036854775807 ∧ ∀ x ∈ xs, x.length ≤ 9223372036854775807 := by
  rcases Go.Deep.open_strs Try.underlying22 Try.underlying9 (by kernel_rfl) h with ⟨hcs, _⟩ | ⟨a, len, cap, m, Sx, hcs, _, hlc, hm, hmm, _, hi⟩
  · simp at hcs
    exact ⟨none, 0, [], hcs, Strs.nil _ _ _, by simp, by simp⟩
  · simp at hcs
    simp at hmm
    subst hmm
    unfold maxLen at hm hi
    refine ⟨some a, m, (List.range len).map fun i => (Sx i).data.toList, by rw [hcs]; simp, fun hn => ?_, by simp; omega, fun x hx => ?_⟩
    · simp [scells] at hn
      have h0 := (hi 0 (by omega)).1
      refine ⟨a, rfl, by have := World.block_lt_of_cell? _ _ h0; rwa [block_of_add] at this, fun j u hu => ?_⟩
      have hj : j < len := by
        have := (List.getElem?_eq_some_iff.1 hu).1
        simpa [scells] using this
      rw [(hi j (by omega)).1]
      simp [scells, hj] at hu
      rw [← hu, str_list]
    · obtain ⟨i, hi', rfl⟩ := List.mem_map.1 hx
      have := (hi i (by have := List.mem_range.1 hi'; omega)).2
      have e : (Sx i).data.toList.length = (Sx i).size := Array.length_toList
      omega
theorem open_strs' (hv : Value.okWide Try.prog W .any b 22 v) (h : DataW.Trod enc Try.prog W base (fun _ => true) held 22 v d p) :
    ∃ (A : Option Addr) (cap : Nat) (xs : List (List UInt8)), v = .slice A xs.length cap ∧ Strs W W.heap.size A xs ∧ xs.length ≤ 9223372036854775807 ∧ ∀ x ∈ xs, x.length ≤ 9223372036854775807 := by
  obtain ⟨A, len, cap, rfl⟩ := okWide_slice Try.underlying22 hv
  obtain ⟨fuel, hf⟩ := h
  exact strs_of_trod hf
end
/-- The sizes of the first k texts. -/
def sumS (xs : List (List UInt8)) : Nat → Nat
  | 0 => 0
  | k + 1 => sumS xs k + (xs.getD k []).length
theorem sumS_mono (xs : List (List UInt8)) (k : Nat) : ∀ n, k ≤ n → sumS xs k ≤ sumS xs n := by
  intro n hn
  induction n with
  | zero => rw [show k = 0 from by omega]; exact Nat.le_refl _
  | succ n ih =>
    by_cases e : k = n + 1
    · rw [e]; exact Nat.le_refl _
    · have := ih (by omega)
      simp only [sumS]
      omega
theorem sumS_elem (xs : List (List UInt8)) (x : List UInt8) (h : x ∈ xs) : x.length ≤ sumS xs xs.length := by
  obtain ⟨j, hj, rfl⟩ := List.getElem_of_mem h
  have := sumS_mono xs (j + 1) xs.length (by omega)
  simp only [sumS] at this
  rw [show xs.getD j [] = xs[j] from by simp [hj]] at this
  omega
theorem sumS_cons (x : List UInt8) (xs : List (List UInt8)) : ∀ k, sumS (x :: xs) (k + 1) = x.length + sumS xs k
  | 0 => by simp [sumS]
  | k + 1 => by
    rw [sumS, sumS_cons x xs k, sumS]
    simp
    omega
theorem jn_sum (b : UInt8) : ∀ xs : List (List UInt8), (jn b xs).length ≤ sumS xs xs.length + xs.length
  | [] => by simp [jn]
  | [x] => by
    rw [show [x].length = 0 + 1 from rfl, sumS_cons]
    simp [jn, sumS]
  | x :: y :: r => by
    have h := jn_sum b (y :: r)
    rw [jn_cons b x (by simp), List.length_append, List.length_cons, show (x :: y :: r).length = (y :: r).length + 1 from rfl, sumS_cons]
    omega
def szS (xs : List (List UInt8)) (left : Int) : Int := if (xs.length : Int) + (sumS xs xs.length : Int) ≤ left then left - xs.length - (sumS xs xs.length : Int) else -1
set_option maxHeartbeats 1000000 in
theorem c_szStringS {H : Nat} (A : Option Addr) (cap : Nat) (xs : List (List UInt8)) (left : Int) (w : World) (h : Strs w H A xs) (hH : H ≤ w.heap.size) (hl : xs.length ≤ 9223372036854775807) (hx : ∀ x ∈ xs, x.length ≤ 9223372036854775807) (h0 : 0 ≤ left) (h1 : left ≤ 1048576) :
    Calls Try.prog 4 #[.slice A xs.length cap, .int .i64 left] w fun e w' => e = .returned (.int .i64 (szS xs left)) ∧ Below w.heap.size w w' := by
  have HX := Lib.hid (fun k (hk : k < xs.length) => hx (xs.getD k []) (by rw [show xs.getD k [] = xs[k] from by simp [hk]]; exact List.getElem_mem _))
  have H0 := Lib.hid h
  clear h hx
  by_cases hbig : left - (xs.length : Int) < 0
  · rw [show szS xs left = -1 from by unfold szS; rw [if_neg (by omega)]]
    go_enter Try.func4, Try.ntmps4
    go_wp2
    go_ret
    exact ⟨rfl, Below.refl _ _⟩
  go_enter Try.func4, Try.ntmps4
  go_wp2_with fail
  go_loopw [1, 5] (fun v i wr => ∃ k : Nat, k ≤ xs.length ∧ i = .int .i64 k ∧ v = .int .i64 (left - xs.length - (sumS xs k : Int)) ∧ (xs.length : Int) + (sumS xs k : Int) ≤ left ∧ Below w.heap.size w wr) (fun _ i _ => xs.length - (intOf i).toNat)
  case atStart => exact ⟨0, Nat.zero_le _, rfl, by simp [sumS], by simp [sumS]; omega, Below.refl _ _⟩
  case round =>
    obtain ⟨k, hk, rfl, rfl, hle, hbel⟩ := hrel
    by_cases hlt : k < xs.length
    · obtain ⟨ad, rfl, hadb, hc⟩ := ((H0.out.more hH).keep hbel).at_ hlt
      have HB := Lib.hid hbel
      clear hbel
      have hxl := HX.out k hlt
      have HS := Lib.hid (show sumS xs (k + 1) = sumS xs k + (xs.getD k []).length from rfl)
      have HM := Lib.hid (sumS_mono xs (k + 1) xs.length (by omega))
      generalize xs.getD k [] = x at *
      have hsz : (str x).size = x.length := str_size x
      generalize sumS xs k = m at *
      by_cases hneg : left - (xs.length : Int) - (m : Int) - (x.length : Int) < 0
      · have HZ : Hid (szS xs left = -1) := Lib.hid (by unfold szS; have h2 := HS.out; have h3 := HM.out; rw [if_neg (by omega)])
        have hw : wrap64 (left - (xs.length : Int) - (m : Int) - (x.length : Int)) = left - (xs.length : Int) - (m : Int) - (x.length : Int) := IntWalk.wrap64_in _ ⟨by omega, by omega⟩
        go_wp2
        go_ret
        exact ⟨by rw [HZ.out]; rfl, HB.out⟩
      · have hw : wrap64 (left - (xs.length : Int) - (m : Int) - (x.length : Int)) = left - (xs.length : Int) - (m : Int) - (x.length : Int) := IntWalk.wrap64_in _ ⟨by omega, by omega⟩
        go_wp2
        go_roundw
        case rel => exact ⟨k + 1, by omega, by go_num, by rw [HS.out]; congr 1; omega, by rw [HS.out]; omega, HB.out⟩
        case measure => simp [intOf]; omega
    · obtain rfl : k = xs.length := by omega
      have HZ : Hid (szS xs left = left - xs.length - (sumS xs xs.length : Int)) := Lib.hid (by unfold szS; rw [if_pos (by omega)])
      generalize sumS xs xs.length = m at *
      go_wp2
      go_ret
      exact ⟨by rw [HZ.out]; rfl, hbel⟩
end Go.Proofs.Ytnbgjkblhbpjlaa
