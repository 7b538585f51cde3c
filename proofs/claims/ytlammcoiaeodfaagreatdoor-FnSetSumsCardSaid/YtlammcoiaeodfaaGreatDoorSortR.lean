/- A list of ranges of the call's own, sorted by the library's slices.SortFunc: between the sort's words and this proof's. -/
import Derived.Test.YtlammcoiaeodfaaGreatDoorRapp
import Derived.Test.YtlammcoiaeodfaaGreatDoorSetLaw
import Derived.Shelf.SlSortCmp.NoneTotal
namespace Go.Proofs.YtlammcoiaeodfaaGreatDoor
open Go.RowKit
open Go.Sort (SWO PermIn SortedIn Holds HoldsK putRow putRowK putCells mapBlock onCells flatK)
set_option linter.unusedVariables false
set_option maxRecDepth 100000

/-- A range that begins at a word. -/
def WR : Type := { p : Int × Int // 0 ≤ p.1 ∧ p.1 ≤ 65535 }
instance : Inhabited WR := ⟨⟨(0, 0), by decide⟩⟩
def encR (x : WR) : List Value := [.int .i64 x.1.1, .int .i64 x.1.2]
def cfR (x y : WR) : Int := x.1.1 - y.1.1
theorem ltR (x y : WR) : ltOf cfR x y = decide (x.1.1 < y.1.1) := by
  unfold ltOf cfR
  rw [Bool.eq_iff_iff, decide_eq_true_eq, decide_eq_true_eq]
  omega
theorem swoR : SWO (ltOf cfR) where
  irrefl x := by rw [ltR]; simp
  trans x y z h1 h2 := by rw [ltR] at *; simp at *; omega
  ntrans x y z h1 h2 := by rw [ltR] at *; simp at *; omega
/-- The ranges of a list that begin at words. -/
def attR : (rs : List (Int × Int)) → (∀ q ∈ rs, 0 ≤ q.1 ∧ q.1 ≤ 65535) → List WR
  | [], _ => []
  | r :: t, h => ⟨r, h r (by simp)⟩ :: attR t (fun q hq => h q (by simp [hq]))
def valR (l : List WR) : List (Int × Int) := l.map (·.1)
theorem valR_att : ∀ (rs : List (Int × Int)) (h : ∀ q ∈ rs, 0 ≤ q.1 ∧ q.1 ≤ 65535), valR (attR rs h) = rs
  | [], _ => rfl
  | r :: t, h => by
    show r :: valR (attR t _) = r :: t
    rw [valR_att t]
theorem valR_length (l : List WR) : (valR l).length = l.length := by simp [valR]
theorem flat_cells (d : Array WR) : (flatK encR 2 d).toList = rcells (valR d.toList) := by
  apply List.ext_getElem?
  intro t
  by_cases ht : t < d.size * 2
  · have h1 : t / 2 < d.size := by omega
    have hg := rcells_get (valR d.toList) (t / 2) (by rw [valR_length]; simpa using h1)
    have e0 : (valR d.toList).getD (t / 2) (0, 0) = d[t / 2]!.1 := by
      simp [valR, h1]
    have hF : (flatK encR 2 d).toList[t]? = some (encR d[t / 2]!)[t % 2]! := by
      have := Go.Sort.get_flatK encR 2 d t ht
      rw [← this, Array.getElem?_toList, Array.getElem?_eq_getElem (by simpa using ht), getElem!_pos _ t (by simpa using ht)]
    rw [hF]
    rw [e0] at hg
    rcases Nat.mod_two_eq_zero_or_one t with h | h
    · rw [h, show (rcells (valR d.toList))[t]? = (rcells (valR d.toList))[t / 2 * 2]? from by rw [show t / 2 * 2 = t from by omega], hg.1]
      rfl
    · rw [h, show (rcells (valR d.toList))[t]? = (rcells (valR d.toList))[t / 2 * 2 + 1]? from by rw [show t / 2 * 2 + 1 = t from by omega], hg.2]
      rfl
  · rw [List.getElem?_eq_none (by simp; omega), List.getElem?_eq_none (by rw [rcells_length, valR_length]; simp; omega)]
theorem flat_eq (d : Array WR) : flatK encR 2 d = (rcells (valR d.toList)).toArray := by rw [← flat_cells]
theorem holds_vals {w : World} {g : Nat} {cur : Array Value} {e : TypeId} {vs : List Value} (hb : w.heap[g]? = some (.cells cur e (0, 0))) (ht : cur.toList.take vs.length = vs) : Holds id w g 0 vs.toArray := by
  intro j hj
  have hj' : j < vs.length := by simpa using hj
  refine ⟨?_, by simp [World.frozen?, hb]⟩
  have h1 : (cur.toList.take vs.length)[j]? = vs[j]? := by rw [ht]
  rw [List.getElem?_take_of_lt hj'] at h1
  simp only [World.cell?, hb, Nat.zero_add]
  simp only [Option.isSome_none, Bool.false_eq_true, if_false]
  rw [← Array.getElem?_toList, h1]
  simp [hj']
theorem heap_vals {w : World} {g n : Nat} {os : Array Obj} {cur : Array Value} {e : TypeId} {fr : Nat × Nat} (d : Array Value) (hb : w.heap[g]? = some (.cells cur e fr)) :
    (Go.Sort.grow (putRow id (Go.Sort.ahead w n) g 0 d) os).heap[g]? = some (.cells (putCells id 0 d cur) e fr) := by
  have hg : g < w.heap.size := (Array.getElem?_eq_some_iff.1 hb).1
  rw [Go.Sort.heap_grow_old _ _ (by simpa using hg)]
  simp [putRow, mapBlock, Go.Sort.ahead, Array.getElem?_modify, hb, onCells]
theorem grownBy_vals {w : World} {g n : Nat} {os : Array Obj} (d : Array Value) : w.grownBy (Go.Sort.grow (putRow id (Go.Sort.ahead w n) g 0 d) os) (some g) := by
  refine ⟨rfl, rfl, rfl, by simp, fun k hk hne => ?_⟩
  rw [Go.Sort.heap_grow_old _ _ (by simpa using hk)]
  have : g ≠ k := fun e => hne (by rw [e])
  simp [putRow, mapBlock, Go.Sort.ahead, Array.getElem?_modify, this]
theorem take_vals (cur : Array Value) (ts : List Value) (h : ts.length ≤ cur.size) : (putCells id 0 ts.toArray cur).toList.take ts.length = ts := by
  apply List.ext_getElem?
  intro j
  by_cases hj : j < ts.length
  · rw [List.getElem?_take_of_lt hj, Array.getElem?_toList]
    simp [putCells, hj, show j < cur.size by omega]
  · rw [List.getElem?_take_eq_none (by omega), List.getElem?_eq_none (by omega)]
theorem perm_len {d d' : Array WR} (h : PermIn 0 d.size d d') : d'.size = d.size := h.1
theorem perm_perm {d d' : Array WR} (h : PermIn 0 d.size d d') : (valR d'.toList).Perm (valR d.toList) := by
  have h2 := h.2.2
  rw [show d'.extract 0 d.size = d' from by rw [← h.1]; simp, show d.extract 0 d.size = d from by simp] at h2
  exact h2.map _
theorem sorted_sorted {d d' : Array WR} (hp : PermIn 0 d.size d d') (h : SortedIn (ltOf cfR) 0 d.size d') : Sorted1 (valR d'.toList) := by
  unfold Sorted1 valR
  rw [List.pairwise_map, List.pairwise_iff_getElem]
  intro i j hi hj hij
  have hs := hp.1
  have hi' : i < d'.size := by simpa using hi
  have hj' : j < d'.size := by simpa using hj
  have := h i j (Nat.zero_le _) hij (by omega)
  rw [ltR, decide_eq_false_iff_not, getElem!_pos d' j hj', getElem!_pos d' i hi'] at this
  simp only [Array.getElem_toList]
  omega
end Go.Proofs.YtlammcoiaeodfaaGreatDoor
