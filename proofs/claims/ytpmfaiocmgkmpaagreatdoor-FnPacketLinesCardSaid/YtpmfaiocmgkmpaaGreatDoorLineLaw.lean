/- A packet's line, read back. -/
import Derived.Test.YtpmfaiocmgkmpaaGreatDoorLineP
import Derived.Test.YtpmfaiocmgkmpaaGreatDoorPInts
import Derived.Test.YtpmfaiocmgkmpaaGreatDoorSplit
namespace Go.Proofs.YtpmfaiocmgkmpaaGreatDoor
open Go.RowKit
open Go.Lib (itoa)
set_option linter.unusedVariables false
set_option maxRecDepth 100000

def fifth (ws : List (List UInt8)) : List UInt8 := if ws.length = 5 then ws.getD 4 [] else []
def idxW (x : List UInt8) : Int := if x = kwAt 0 then 0 else if x = kwAt 1 then 1 else if x = kwAt 2 then 2 else if x = kwAt 3 then 3 else if x = kwAt 4 then 4 else if x = kwAt 5 then 5 else -1
def idxS (x : List UInt8) : Int := if x = kwAt 1 then 1 else if x = kwAt 2 then 2 else if x = kwAt 3 then 3 else if x = kwAt 4 then 4 else if x = kwAt 5 then 5 else 0
theorem idx_kw {m : Nat} (h1 : 1 ≤ m) (h2 : m < 6) : idxW (kwAt m) = (m : Int) ∧ idxS (kwAt m) = (m : Int) := by
  match m, h1, h2 with
  | 1, _, _ | 2, _, _ | 3, _, _ | 4, _, _ | 5, _, _ => decide
def wP (l : List UInt8) (i : Nat) : List UInt8 := (spl 32 l).getD i []
def eP (l : List UInt8) (i : Nat) : List UInt8 := (spl 45 (wP l 3)).getD i []
def rdL (l : List UInt8) : Option (List Int) := allO readI [wP l 1, (Lib.cut (wP l 3) [45]).1, (Lib.cut (wP l 3) [45]).2.1]
def candI (l : List UInt8) : Option (Int × Int × Int × Int × List UInt8) :=
  if 4 ≤ (spl 32 l).length ∧ (spl 32 l).length ≤ 5 then
    match rdL l with
    | some L => some (idxW (wP l 0), L.getD 0 0, L.getD 1 0, L.getD 2 0, fifth (spl 32 l))
    | none => none
  else none
def plOf (l : List UInt8) : Option (Int × Int × Int × Int × List UInt8) :=
  match candI l with
  | some p => if lineR p.1 p.2.1 p.2.2.1 p.2.2.2.1 p.2.2.2.2 = l then some p else none
  | none => none
theorem kw_no32 (m : Nat) : (32 : UInt8) ∉ kwAt m := by
  match m with
  | 0 | 1 | 2 | 3 | 4 | 5 => decide
  | m + 6 => simp [kwAt, kindL]
theorem let_no32 {d : List UInt8} (h : itemB d = true) : (32 : UInt8) ∉ d := by
  intro k
  unfold itemB letB at h
  simp only [Bool.and_eq_true, List.all_eq_true, decide_eq_true_eq] at h
  have := (h.1 _ k).1
  simp at this
theorem line_words {m : Nat} {n t le : Int} {d : List UInt8} (hg : goodP (m : Int) n t le d = true) :
    spl 32 (lineL m n t le d) = [kwAt m, itoa n, [111, 102], itoa t ++ 45 :: itoa le] ++ (if d = [] then [] else [d]) := by
  obtain ⟨_, ⟨n0, _⟩, ⟨t0, _⟩, ⟨l0, _⟩, _⟩ := good_rng hg
  have hi := let_no32 (goodP_t hg).2.2.2.2.1
  have a1 := itoa_no n0 (b := 32) (by decide)
  have a2 := itoa_no t0 (b := 32) (by decide)
  have a3 := itoa_no l0 (b := 32) (by decide)
  have a4 : (32 : UInt8) ∉ itoa t ++ 45 :: itoa le := by
    intro k
    rcases List.mem_append.1 k with k | k
    · exact a2 k
    · rcases List.mem_cons.1 k with k | k
      · exact absurd k (by decide)
      · exact a3 k
  have a5 := kw_no32 m
  by_cases hd : d = []
  · rw [if_pos hd]
    have e : lineL m n t le d = jn 32 [kwAt m, itoa n, [111, 102], itoa t ++ 45 :: itoa le] := by
      unfold lineL
      rw [if_pos hd]
      simp [jn]
    rw [e, spl_jn _ (by simp) (by
      intro x hx
      simp only [List.mem_cons, List.not_mem_nil, or_false] at hx
      rcases hx with rfl | rfl | rfl | rfl
      · exact a5
      · exact a1
      · decide
      · exact a4)]
    rfl
  · rw [if_neg hd]
    have e : lineL m n t le d = jn 32 [kwAt m, itoa n, [111, 102], itoa t ++ 45 :: itoa le, d] := by
      unfold lineL
      rw [if_neg hd]
      simp [jn]
    rw [e, spl_jn _ (by simp) (by
      intro x hx
      simp only [List.mem_cons, List.not_mem_nil, or_false] at hx
      rcases hx with rfl | rfl | rfl | rfl | rfl
      · exact a5
      · exact a1
      · decide
      · exact a4
      · exact hi)]
    rfl
/-- What a good packet's line is made of. -/
theorem line_facts {m : Nat} {n t le : Int} {d : List UInt8} (hg : goodP (m : Int) n t le d = true) {l : List UInt8} (hl : lineL m n t le d = l) :
    l.length ≤ 60 ∧ ((spl 32 l).length = 4 ∨ (spl 32 l).length = 5) ∧ (spl 45 (wP l 3)).length = 2 ∧ readI (wP l 1) = some n ∧ readI (eP l 0) = some t ∧ readI (eP l 1) = some le ∧ idxS (wP l 0) = (m : Int) ∧ fifth (spl 32 l) = d ∧ candI l = some ((m : Int), n, t, le, d) := by
  obtain ⟨⟨m', hm', h1, h2⟩, ⟨n0, n1⟩, ⟨t0, t1⟩, ⟨l0, l1⟩, hd8⟩ := good_rng hg
  obtain rfl : m = m' := by omega
  have hw := line_words hg
  rw [hl] at hw
  have w0 : wP l 0 = kwAt m := by unfold wP; rw [hw]; rfl
  have w1 : wP l 1 = itoa n := by unfold wP; rw [hw]; rfl
  have w3 : wP l 3 = itoa t ++ 45 :: itoa le := by unfold wP; rw [hw]; rfl
  have b1 : (45 : UInt8) ∉ itoa t := itoa_no t0 (by decide)
  have b2 : (45 : UInt8) ∉ itoa le := itoa_no l0 (by decide)
  have s45 : spl 45 (wP l 3) = [itoa t, itoa le] := by rw [w3, spl_hit _ b1, spl_none b2]
  have r1 : readI (itoa n) = some n := readI_itoa (numOk_mk (by omega) (by omega))
  have r2 : readI (itoa t) = some t := readI_itoa (numOk_mk (by omega) (by omega))
  have r3 : readI (itoa le) = some le := readI_itoa (numOk_mk (by omega) (by omega))
  have hlen : (spl 32 l).length = if d = [] then 4 else 5 := by rw [hw]; split <;> rfl
  have hf : fifth (spl 32 l) = d := by
    unfold fifth
    rw [hlen]
    by_cases h : d = []
    · rw [if_pos h, if_neg (by decide), h]
    · rw [if_neg h, if_pos rfl, hw, if_neg h]
      rfl
  refine ⟨?_, ?_, by rw [s45]; rfl, by rw [w1, r1], by unfold eP; rw [s45]; exact r2, by unfold eP; rw [s45]; exact r3, by rw [w0]; exact (idx_kw h1 h2).2, hf, ?_⟩
  · rw [← hl]
    have := kwAt_len m
    have := (num_len n0 n1).2
    have := (num_len t0 t1).2
    have := (num_len l0 l1).2
    unfold lineL
    simp only [List.length_append, List.length_cons, List.length_nil]
    split <;> simp <;> omega
  · rw [hlen]; split <;> simp
  · unfold candI
    rw [if_pos (by rw [hlen]; split <;> omega)]
    have : rdL l = some [n, t, le] := by
      unfold rdL
      rw [w1, w3, cut_at _ b1]
      simp [allO, r1, r2, r3]
    rw [this, w0, (idx_kw h1 h2).1, hf]
    rfl
theorem plOf_line {k n t le : Int} {d : List UInt8} (hg : goodP k n t le d = true) {l : List UInt8} (hl : lineR k n t le d = l) : plOf l = some (k, n, t, le, d) := by
  obtain ⟨⟨m, rfl, h1, h2⟩, _⟩ := good_rng hg
  have hl2 := hl
  rw [lineR_good hg] at hl2
  have h := (line_facts hg hl2).2.2.2.2.2.2.2.2
  unfold plOf
  rw [h]
  show (if lineR (m : Int) n t le d = l then _ else _) = _
  rw [if_pos hl]
theorem cand_nil : candI [] = none := by
  unfold candI
  rw [if_neg (by simp [spl])]
theorem plOf_good {l : List UInt8} {k n t le : Int} {d : List UInt8} (h : plOf l = some (k, n, t, le, d)) : goodP k n t le d = true ∧ lineR k n t le d = l := by
  unfold plOf at h
  split at h
  · next p hp =>
    split at h
    · next he =>
      cases h
      refine ⟨?_, he⟩
      cases hg : goodP k n t le d
      · exfalso
        unfold lineR at he
        rw [hg] at he
        simp at he
        subst he
        rw [cand_nil] at hp
        cases hp
      · rfl
    · cases h
  · cases h
/-- The answer's cells. -/
def plC (l : List UInt8) : Array Value := match plOf l with | some p => pkC p.1 p.2.1 p.2.2.1 p.2.2.2.1 p.2.2.2.2 | none => pkC 0 0 0 0 []
def plOk (l : List UInt8) : Bool := (plOf l).isSome
theorem pl_some {l : List UInt8} {k n t le : Int} {d : List UInt8} (h : plOf l = some (k, n, t, le, d)) : plC l = pkC k n t le d ∧ plOk l = true := by simp [plC, plOk, h]
theorem pl_none {l : List UInt8} (h : plOf l = none) : plC l = pkC 0 0 0 0 [] ∧ plOk l = false := by simp [plC, plOk, h]
theorem plC_pk (l : List UInt8) : ∃ k n t l' d, plC l = pkC k n t l' d ∧ d.length ≤ l.length + 18 := by
  cases h : plOf l with
  | none => exact ⟨0, 0, 0, 0, [], (pl_none h).1, by simp⟩
  | some p =>
    obtain ⟨k, n, t, le, d⟩ := p
    have := (good_rng (plOf_good h).1).2.2.2.2
    exact ⟨k, n, t, le, d, (pl_some h).1, by omega⟩
/-- The reference's answer is no packet, where one of its tests fails. -/
theorem pl_not {l : List UInt8} (h : ¬ (l.length ≤ 60 ∧ ((spl 32 l).length = 4 ∨ (spl 32 l).length = 5) ∧ (spl 45 (wP l 3)).length = 2 ∧ rdOk (wP l 1) = true ∧ rdOk (eP l 0) = true ∧ rdOk (eP l 1) = true ∧ goodP (idxS (wP l 0)) (rdV (wP l 1)) (rdV (eP l 0)) (rdV (eP l 1)) (fifth (spl 32 l)) = true ∧ lineR (idxS (wP l 0)) (rdV (wP l 1)) (rdV (eP l 0)) (rdV (eP l 1)) (fifth (spl 32 l)) = l)) : plOf l = none := by
  cases hp : plOf l with
  | none => rfl
  | some p =>
    obtain ⟨k, n, t, le, d⟩ := p
    exfalso
    apply h
    obtain ⟨hg, hl⟩ := plOf_good hp
    obtain ⟨⟨m, rfl, h1, h2⟩, _⟩ := good_rng hg
    have hl2 := hl
    rw [lineR_good hg] at hl2
    obtain ⟨f1, f2, f3, f4, f5, f6, f7, f8, _⟩ := line_facts hg hl2
    obtain ⟨v4, o4⟩ := rd_some f4
    obtain ⟨v5, o5⟩ := rd_some f5
    obtain ⟨v6, o6⟩ := rd_some f6
    rw [f7, f8, v4, v5, v6]
    exact ⟨f1, f2, f3, o4, o5, o6, hg, hl⟩
end Go.Proofs.YtpmfaiocmgkmpaaGreatDoor
