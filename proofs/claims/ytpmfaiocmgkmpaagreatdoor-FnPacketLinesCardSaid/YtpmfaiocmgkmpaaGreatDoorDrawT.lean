/- The reference's draws of texts. -/
import Derived.Test.YtpmfaiocmgkmpaaGreatDoorDrawW
import Derived.Lib.SlBytesRow
namespace Go.Proofs.YtpmfaiocmgkmpaaGreatDoor
open Go.RowKit
set_option linter.unusedVariables false
set_option maxRecDepth 100000

/-- A text that is drawn. -/
def DrawsT (b N : Nat) (P : ByteArray → Prop) (w : World) (e : Ending) (w' : World) : Prop := ∃ s : ByteArray, e = .returned (.string s) ∧ P s ∧ Cur w' b N ∧ w.grownBy w' (some b)
def DrawnT (P : ByteArray → Prop) (w : World) (e : Ending) (w' : World) : Prop := ∃ s : ByteArray, e = .returned (.string s) ∧ P s ∧ Below w.heap.size w w'
def DrawnTT (P : ByteArray → ByteArray → Prop) (w : World) (e : Ending) (w' : World) : Prop := ∃ s t : ByteArray, e = .returned (.tuple #[.string s, .string t]) ∧ P s t ∧ Below w.heap.size w w'
theorem lies_lit (w : World) (vs : List Value) (t : TypeId) : Lies (w.alloc (.cells vs.toArray t)) (w.heap.size + 1) (some ⟨w.heap.size, 0, none⟩) vs := fun hn => by
  refine ⟨_, rfl, Nat.lt_succ_self _, fun j u hu => ?_⟩
  rw [add_lit]
  simp [go_sem]
  exact hu
theorem Lies.far {w w' : World} {H : Nat} {A : Option Addr} {vs : List Value} {row : Option Nat} (h : Lies w H A vs) (hg : w.grownBy w' row) (hH : H ≤ w.heap.size) (hne : ∀ ad, A = some ad → row ≠ some ad.block) : Lies w' H A vs := fun hn => by
  obtain ⟨ad, e, hb, hc⟩ := h hn
  refine ⟨ad, e, hb, fun j u hu => ?_⟩
  rw [← hc j u hu]
  exact World.cell?_of_block (hg.block _ (by rw [block_of_add]; omega) (by rw [block_of_add]; exact fun e2 => hne ad e e2.symm))
set_option maxHeartbeats 1000000 in
theorem c_of (b N H n : Nat) (P : ByteArray → Prop) (A : Option Addr) (cap : Nat) (vs : List Value) (w : World) (h : Cur w b N) (hN : N ≤ 1000000) (hA : Lies w H A vs) (hH : H ≤ w.heap.size) (hne : ∀ ad, A = some ad → (some b : Option Nat) ≠ some ad.block) (hn : vs.length = n) (hp : 0 < n) (hl : n ≤ 1000) (hP : ∀ v ∈ vs, ∃ s, v = .string s ∧ P s) :
    Calls Tryz.prog 58 #[.pointer (some ⟨b, 0, none⟩), .slice A n cap] w (DrawsT b (N + 2) P w) := by
  have H0 := Lib.hid h
  have HA := Lib.hid hA
  have HP := Lib.hid hP
  have HNE := Lib.hid hne
  have HN := Lib.hid hn
  clear h hA hP hne hn
  go_enter Tryz.func58, Tryz.ntmps58
  go_wp2_with fail
  refine (c_pick b N _ _ H0.out hN (by omega) (by omega)).mono ?_
  rintro e w1 ⟨x, rfl, ⟨hx0, hx1⟩, k1, g1⟩
  obtain ⟨i, rfl⟩ : ∃ i : Nat, x = (i : Int) := ⟨x.toNat, by omega⟩
  have hi : i < n := by omega
  have hi' : i < vs.length := by rw [HN.out]; exact hi
  obtain ⟨ad, rfl, hadb, hc⟩ := (HA.out.far g1 hH HNE.out) (by omega)
  obtain ⟨s, hs, hps⟩ := HP.out vs[i] (List.getElem_mem _)
  have hci := hc i (.string s) (by rw [List.getElem?_eq_getElem hi', hs])
  have HPS := Lib.hid hps
  have H1 := Lib.hid k1
  have G1 := Lib.hid g1
  clear k1 g1 HA HP HNE hc hs hi' HN hps
  go_wp2
  go_ret
  exact ⟨_, rfl, HPS.out, H1.out, G1.out⟩
theorem conv_one (w : World) (x : Int) : ∃ t : ByteArray, t.size ≤ 1 ∧ 1 ≤ t.size ∧ (convert 22 9 (.slice (some ⟨w.heap.size, 0, none⟩) 1 1)).run Tryz.prog (w.alloc (.cells #[.int .u8 x] 5)) = .ok (.string t) (w.alloc (.cells #[.int .u8 x] 5)) :=
  ⟨strOfNums [x], by rw [strOfNums_size]; exact Nat.le_refl _, by rw [strOfNums_size]; exact Nat.le_refl _, run_convert_bytes_arg (P := Tryz.prog) _ 22 5 Tryz.underlying22 Tryz.underlying5 w.heap.size 0 1 1 [x] rfl (fun i hi => by
    obtain rfl : i = 0 := by omega
    simp [go_sem]) 9 Tryz.underlying9⟩
end Go.Proofs.YtpmfaiocmgkmpaaGreatDoor
