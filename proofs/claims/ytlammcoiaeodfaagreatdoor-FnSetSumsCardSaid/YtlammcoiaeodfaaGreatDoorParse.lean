/- Sets' texts, read by the program and by the reference. -/
import Derived.Test.YtlammcoiaeodfaaGreatDoorParseL
import Derived.Test.YtlammcoiaeodfaaGreatDoorRead
import Derived.Test.YtlammcoiaeodfaaGreatDoorSetS
import Derived.Test.YtlammcoiaeodfaaGreatDoorRapp
import Derived.Test.YtlammcoiaeodfaaGreatDoorTwo
namespace Go.Proofs.YtlammcoiaeodfaaGreatDoor
open Go.RowKit
set_option linter.unusedVariables false
set_option maxRecDepth 100000

theorem allO2 (a b : List UInt8) : allO readI [a, b] = match pairO (readI a) (readI b) with | some r => some [r.1, r.2] | none => none := by
  simp only [allO, pairO]
  cases readI a with
  | none => rfl
  | some x => cases readI b <;> rfl
set_option maxHeartbeats 1000000 in
theorem c_parseInts {B H : Nat} (A : Option Addr) (cap : Nat) (xs : List (List UInt8)) (w : World) (hp : PowW w B) (hE : ErrW w B) (hB : B ≤ w.heap.size) (h : Strs w H A xs) (hH : H ≤ w.heap.size) (hx : ∀ x ∈ xs, x.length ≤ 10000000) (hl : xs.length ≤ 1000000) :
    Calls Tryz.prog 37 #[.slice A xs.length cap] w fun e w' => ∃ A' cap', e = .returned (.tuple #[.slice A' ((allO readI xs).getD []).length cap', .bool (allO readI xs).isSome]) ∧ OwnI w' w.heap.size A' cap' ((allO readI xs).getD []) ∧ Below w.heap.size w w' := by
  have HI := Lib.hid (h.more hH)
  have HP := Lib.hid hp
  have HE := Lib.hid hE
  have HX := Lib.hid hx
  have S := Lib.hid (OwnI.nil w w.heap.size)
  clear h hp hE hx
  go_enter Tryz.func37, Tryz.ntmps37
  go_wp2
  go_loopw [4, 11] (fun v i wr => ∃ (k : Nat) (vs : List Int) (A1 : Option Addr) (c1 : Nat), k ≤ xs.length ∧ i = .int .i64 k ∧ v = .slice A1 vs.length c1 ∧ Hid (allO readI (xs.take k) = some vs) ∧ Hid (OwnI wr w.heap.size A1 c1 vs) ∧ Hid (Below w.heap.size w wr)) (fun _ i _ => xs.length - (intOf i).toNat)
  case atStart => exact ⟨0, [], none, 0, Nat.zero_le _, rfl, rfl, Lib.hid rfl, S, Lib.hid (Below.refl _ _)⟩
  case round =>
    clear S
    obtain ⟨k, vs, A1, c1, hk, rfl, rfl, HV, HO, HB⟩ := hrel
    have hvl : vs.length ≤ k := by have := allO_len HV.out; rw [List.length_take] at this; omega
    have hsz := HB.out.size
    by_cases hlt : k < xs.length
    · obtain ⟨ad, rfl, hadb, hc⟩ := (HI.out.keep HB.out).at_ hlt
      have hi : (k : Int) < (xs.length : Int) := by omega
      have hxk : xs.getD k [] = xs[k] := by simp [hlt]
      rw [hxk] at hc
      have hxl := HX.out xs[k] (List.getElem_mem hlt)
      have C := c_implParseInt (str xs[k]) wr (HP.out.keep HB.out hB) (HE.out.keep HB.out hB) (by omega) (by rw [str_size]; exact hxl)
      rw [list_str] at C
      have HT := Lib.hid (allO_take hlt HV.out)
      have HS := Lib.hid (fun hn => allO_stop (f := readI) hlt hn)
      clear hxk HI
      cases hr : readI xs[k] with
      | none =>
        obtain ⟨e1, e2⟩ := rd_none hr
        rw [e1, e2] at C
        have HC := Lib.hid C
        have HN := Lib.hid (HS.out hr)
        clear C e1 e2 hr HT HS hxl
        generalize str xs[k] = x at *
        go_wp2_with fail
        refine HC.out.mono ?_
        rintro e w2 ⟨rfl, b2⟩
        have HB2 := Lib.hid (HB.out.trans (b2.mono hsz))
        have HE2 := Lib.hid (OwnI.nil w2 w.heap.size)
        clear b2 HC
        go_wp2
        go_ret2
        exact ⟨none, 0, by rw [HN.out]; rfl, by rw [HN.out]; exact HE2.out, HB2.out⟩
      | some n =>
        obtain ⟨e1, e2⟩ := rd_some hr
        rw [e1, e2] at C
        have HC := Lib.hid C
        have HN : Hid (allO readI (xs.take (k + 1)) = some (vs ++ [n])) := Lib.hid (by rw [HT.out, hr])
        clear C e1 e2 hr HT HS hxl
        generalize str xs[k] = x at *
        go_wp2_with fail
        refine HC.out.mono ?_
        rintro e w2 ⟨rfl, b2⟩
        have HO2 := Lib.hid (HO.out.keep (b2.mono (Nat.le_refl _)))
        have HB2 := Lib.hid (HB.out.trans (b2.mono hsz))
        have s2 := HB2.out.size
        clear b2 HC hc HO HB
        go_wp2_with (at_builtin; refine wpList_appI _ rfl _ _ rfl w.heap.size A1 c1 vs rfl (HO2.out.push _) n _ rfl (new1_cell _ _ _) (by omega) (by simp; omega) ?_; intro A3 c3 w3 o3 b3)
        have HO3 := Lib.hid o3
        have HB3 := Lib.hid ((HB2.out.alloc s2 _).trans b3)
        clear o3 b3 HO2 HB2
        go_wp2
        go_roundw
        case rel => exact ⟨k + 1, vs ++ [n], A3, c3, by omega, by go_num, by simp, HN, HO3, HB3⟩
        case measure => simp [intOf]; omega
    · obtain rfl : k = xs.length := by omega
      have HN : Hid (allO readI xs = some vs) := Lib.hid (by have := HV.out; rwa [List.take_length] at this)
      go_wp2
      go_ret2
      exact ⟨A1, c1, by rw [HN.out]; rfl, by rw [HN.out]; exact HO.out, HB.out⟩
/-- The parts of a text, and the ranges read so far: two rows of the call's own, in two blocks. -/
structure PrW (w : World) (Ap : Option Addr) (cp : Nat) (ps : List (List UInt8)) (A : Option Addr) (cap : Nat) (L : List (Int × Int)) (wr : World) : Prop where
  parts : OwnS wr w.heap.size Ap cp ps
  out : OwnR wr w.heap.size A cap L
  ne : ∀ k, ownB A = some k → ownB Ap ≠ some k
  bel : Below w.heap.size w wr
theorem PrW.keep {w wr w2 : World} {Ap A : Option Addr} {cp cap : Nat} {ps : List (List UInt8)} {L : List (Int × Int)} (h : PrW w Ap cp ps A cap L wr) (b : Below wr.heap.size wr w2) : PrW w Ap cp ps A cap L w2 := ⟨h.parts.keep b, h.out.keep b, h.ne, h.bel.trans (b.mono h.bel.size)⟩
theorem PrW.push {w wr : World} {Ap A : Option Addr} {cp cap : Nat} {ps : List (List UInt8)} {L : List (Int × Int)} (h : PrW w Ap cp ps A cap L wr) (o : Obj) : PrW w Ap cp ps A cap L (wr.alloc o) := h.keep ((Below.refl _ _).alloc (Nat.le_refl _) o)
theorem PrW.drewN {w wr : World} {Ap A : Option Addr} {cp cap : Nat} {ps : List (List UInt8)} {L : List (Int × Int)} (h : PrW w Ap cp ps A cap L wr) (q : Nat) : PrW w Ap cp ps A cap L (wr.drewN q) := h.keep (below_dw (Below.refl _ _) q)
theorem PrW.drew {w wr : World} {Ap A : Option Addr} {cp cap : Nat} {ps : List (List UInt8)} {L : List (Int × Int)} (h : PrW w Ap cp ps A cap L wr) : PrW w Ap cp ps A cap L wr.drew := h.keep ((Below.refl _ _).drew)
theorem PrW.next {w wr w2 : World} {Ap A A2 : Option Addr} {cp cap c2 : Nat} {ps : List (List UInt8)} {L L2 : List (Int × Int)} (h : PrW w Ap cp ps A cap L wr) (o2 : OwnR w2 w.heap.size A2 c2 L2) (hg : wr.grownBy w2 (ownB A)) (hat : ownB A2 = ownB A ∨ ownB A2 = some wr.heap.size) : PrW w Ap cp ps A2 c2 L2 w2 := by
  refine ⟨?_, o2, fun k hk => ?_, h.bel.grown hg h.bel.size (fun k hk => (World.ownsRow.lt h.out k (by rw [ownB_eq]; exact hk)).1)⟩
  · refine World.ownsRow.kept h.parts hg ?_
    rw [ownB_eq]
    cases hA : ownB Ap with
    | none => exact .inl rfl
    | some k => exact .inr (fun e => h.ne k e.symm hA)
  · rcases hat with e | e
    · exact h.ne k (by rw [← e]; exact hk)
    · intro h2
      have := (World.ownsRow.lt h.parts k (by rw [ownB_eq]; exact h2)).2
      rw [e] at hk
      injection hk with hk
      omega
/-- 'append(out, r)', and where the new list lies. -/
theorem wp_appR_at (w : World) {o : Oper} {a : Act} {K : Act → World → Prop} {Q : Exit → Act → World → Prop} (s x : Operand)
    (ho : o.op = .call { callee := .builtin .append, args := #[s, x], argTypes := #[24, 24] }) (B : Nat) (A : Option Addr) (cap : Nat) (rs : List (Int × Int))
    (hs : a.eval s = .slice A rs.length cap) (hown : OwnR w B A cap rs) (r : Int × Int) (ad : Addr) (hx : a.eval x = .slice (some ad) 1 1) (hz : w.cell? (ad.add 0) = some (.int .i64 r.1)) (hz' : w.cell? (ad.add 1) = some (.int .i64 r.2))
    (hl : rs.length ≤ 100000000) (hB : B ≤ w.heap.size)
    (h : ∀ A' cap' w', OwnR w' B A' cap' (rs ++ [r]) → w.grownBy w' (ownB A) → (ownB A' = ownB A ∨ ownB A' = some w.heap.size) → K (a.put o.dst (.slice A' (rs.length + 1) cap')) w') : o.wp Tryz.prog a w K Q := by
  obtain ⟨i0, hi, hz0, hz1, hz2⟩ := info_parts rng_info
  obtain ⟨v', w', hr, h2, h3, h4, h5⟩ := run_append_own_at (P := Tryz.prog) w B 24 o.type 47 i0 (.agg #[.int .i64 0, .int .i64 0]) 2 16 Tryz.underlying24 hi hz0 hz1 hz2 rfl (by omega) _ rs.length (rcells rs) hown ad 1 1 [.int .i64 r.1, .int .i64 r.2] rfl (by
    intro j u hu
    match j, hu with
    | 0, hu => simp at hu; subst hu; exact hz
    | 1, hu => simp at hu; subst hu; exact hz'
    | j + 2, hu => simp at hu) (by
    intro u hu
    simp at hu
    rcases hu with rfl | rfl <;> rfl) (by unfold maxLen; omega) (by omega) hB
  unfold Oper.wp execOp
  simp only [ho, resolve, invoke, builtin, Sem.run_bind, Sem.run_pure, Result.andThen_ok, List.map_toArray, List.map_cons, List.map_nil, hs, hx, hr]
  rw [ownB_eq] at h3 h5
  rcases h2.2 with ⟨_, h0⟩ | ⟨g, c, cur, rfl, _⟩
  · omega
  · rw [ownB_eq] at h5
    refine h _ _ _ ?_ h3 h5
    have e : rcells rs ++ [Value.int .i64 r.1, .int .i64 r.2] = rcells (rs ++ [r]) := by rw [rcells_append]; rfl
    rw [e] at h2
    unfold OwnR
    rw [List.length_append]
    exact h2
theorem wpList_appR_at (w : World) {ops : Array Oper} {rest : List Oper} {o : Oper} {a : Act} {Q : Exit → Act → World → Prop} (hg : o.guard = none) (s x : Operand)
    (ho : o.op = .call { callee := .builtin .append, args := #[s, x], argTypes := #[24, 24] }) (B : Nat) (A : Option Addr) (cap : Nat) (rs : List (Int × Int))
    (hs : a.eval s = .slice A rs.length cap) (hown : OwnR w B A cap rs) (r : Int × Int) (ad : Addr) (hx : a.eval x = .slice (some ad) 1 1) (hz : w.cell? (ad.add 0) = some (.int .i64 r.1)) (hz' : w.cell? (ad.add 1) = some (.int .i64 r.2))
    (hl : rs.length ≤ 100000000) (hB : B ≤ w.heap.size)
    (h : ∀ A' cap' w', OwnR w' B A' cap' (rs ++ [r]) → w.grownBy w' (ownB A) → (ownB A' = ownB A ∨ ownB A' = some w.heap.size) → wpList Tryz.prog ops Q rest (a.put o.dst (.slice A' (rs.length + 1) cap')) w') : wpList Tryz.prog ops Q (o :: rest) a w :=
  wpList_plain hg fun _ hK => wp_appR_at w s x ho B A cap rs hs hown r ad hx hz hz' hl hB fun A' cap' w' h2 h3 h4 => hK _ _ (h A' cap' w' h2 h3 h4)
theorem step_appR_at (w : World) {ops : Array Oper} {o : Oper} {a : Act} {K : Act → World → Prop} {Q : Exit → Act → World → Prop} {E : Prop} (hg : o.guard = none) (s x : Operand)
    (ho : o.op = .call { callee := .builtin .append, args := #[s, x], argTypes := #[24, 24] }) (B : Nat) (A : Option Addr) (cap : Nat) (rs : List (Int × Int))
    (hs : a.eval s = .slice A rs.length cap) (hown : OwnR w B A cap rs) (r : Int × Int) (ad : Addr) (hx : a.eval x = .slice (some ad) 1 1) (hz : w.cell? (ad.add 0) = some (.int .i64 r.1)) (hz' : w.cell? (ad.add 1) = some (.int .i64 r.2))
    (hl : rs.length ≤ 100000000) (hB : B ≤ w.heap.size)
    (h : ∀ A' cap' w', OwnR w' B A' cap' (rs ++ [r]) → w.grownBy w' (ownB A) → (ownB A' = ownB A ∨ ownB A' = some w.heap.size) → K (a.put o.dst (.slice A' (rs.length + 1) cap')) w') :
    if Region.wanted o (yielded ops a.tmps) = true then Oper.wp Tryz.prog o a w K Q else E := by
  have hw : Region.wanted o (yielded ops a.tmps) = true := by simp [Region.wanted, hg]
  rw [if_pos hw]
  exact wp_appR_at w s x ho B A cap rs hs hown r ad hx hz hz' hl hB h
end Go.Proofs.YtlammcoiaeodfaaGreatDoor
