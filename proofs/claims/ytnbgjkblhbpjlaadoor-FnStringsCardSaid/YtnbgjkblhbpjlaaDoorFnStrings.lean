/-
  The law FnStrings returns true at every input and leaves its argument as it was: FormatInt and ParseInt are inverse, AppendChecksum and VerifyChecksum are inverse, and changing any single byte of a checksummed text is detected.
  Conditions: none.
-/
import Derived.Test.YtnbgjkblhbpjlaaDoorRows
import Derived.WalkKit
import Derived.ProofKit
import Derived.OpenShut
import Derived.ShutString
import Derived.ChangeOld
import Derived.Below
import Derived.Handy
import Derived.Test.YtnbgjkblhbpjlaaDoorWrap
import Derived.Test.YtnbgjkblhbpjlaaDoorCards
import Derived.Test.YtnbgjkblhbpjlaaDoorTie
import Derived.SevenTiedAt
import Derived.Test.YtnbgjkblhbpjlaaDoorOpenB
import Derived.Test.YtnbgjkblhbpjlaaDoorDrawN
import Derived.Test.YtnbgjkblhbpjlaaDoorFmtI
import Derived.Test.YtnbgjkblhbpjlaaDoorChk
import Derived.Test.YtnbgjkblhbpjlaaDoorVer
import Derived.Test.YtnbgjkblhbpjlaaDoorRead
import Derived.Test.YtnbgjkblhbpjlaaDoorChkLaw
namespace Go.Proofs.YtnbgjkblhbpjlaaDoor.fnStrings
open Go.ChangeShapes Go.WideShapes Go.ChangeAt Go.RowKit
open Go.ChangeMaps (open_string shut_string)
set_option linter.unusedVariables false

theorem app_y {l : List UInt8} (h : appOk l = true) : verOk (appT l) = true ∧ verT (appT l) = l ∧ 0 < (appT l).length ∧ ∀ (k : Nat) (c : UInt8) (hk : k < (appT l).length), (appT l)[k] ≠ c → verOk ((appT l).set k c) = false := by
  have e : appT l = sealC l := by simp [appT, h]
  have h35 : (35 : UInt8) ∉ l := by
    intro hm
    simp [appOk, hasB_t hm] at h
  have hl : (sealC l).length ≤ 4000 := by
    simp [appOk] at h
    exact h.2
  have hv : verOk (sealC l) = true := by
    unfold verOk
    rw [headC_seal h35]
    simp [hl]
  rw [e]
  refine ⟨hv, by simp [verT, hv, headC_seal h35], by have := (sealC_len l).1; omega, fun k c hk hc => ?_⟩
  unfold verOk
  rw [Bool.and_eq_false_iff]
  right
  exact decide_eq_false fun e2 => seal_changed h35 (headC_no _) hk hc e2.symm
theorem app_len (l : List UInt8) : (appT l).length ≤ 4000 := by
  unfold appT
  split
  · next h => simp [appOk] at h; exact h.2
  · simp
theorem app_n {l : List UInt8} (h : appOk l = false) : appT l = [] := by simp [appT, h]
theorem fmt_y {n : Int} (h : numOk n = true) : rdV (fmtT n) = n ∧ rdOk (fmtT n) = true := by
  have e : fmtT n = Lib.itoa n := by simp [fmtT, h]
  rw [e]
  exact rd_some (readI_itoa h)
theorem fmt_len (n : Int) : (fmtT n).length ≤ 7 := by
  unfold fmtT
  split
  · next h => exact (itoa_len h).2
  · simp
/-- Block b holds the bytes of Y and may be written. -/
def BW (Y : List UInt8) (b : Nat) (w : World) : Prop := b < w.heap.size ∧ (∀ (j : Nat) (h : j < Y.length), w.cell? ⟨b, j, none⟩ = some (.int .u8 (Y[j].toNat : Int))) ∧ ∀ j, j < Y.length → w.frozen? ⟨b, j, none⟩ = false
theorem BW.keep {Y : List UInt8} {b : Nat} {w w1 : World} (h : BW Y b w) (k : Below w.heap.size w w1) : BW Y b w1 :=
  ⟨Nat.lt_of_lt_of_le h.1 k.size, fun j hj => (k.cell (p := ⟨b, j, none⟩) h.1).trans (h.2.1 j hj), fun j hj => (k.frozen (p := ⟨b, j, none⟩) h.1).trans (h.2.2 j hj)⟩
theorem frozen_mark (w : World) (C : Array Value) (t : TypeId) (a b j : Nat) (h : j < a) : (w.alloc (.cells C t (a, b))).frozen? ⟨w.heap.size, j, none⟩ = false := by
  have : (w.alloc (.cells C t (a, b))).heap[w.heap.size]? = some (.cells C t (a, b)) := by
    show (w.heap.push (.cells C t (a, b)))[w.heap.size]? = _
    simp
  unfold World.frozen?
  simp only [this]
  simp
  omega
theorem bytes_world (w : World) (Y : List UInt8) (cap : Nat) (t : TypeId) : BW Y w.heap.size ((w.alloc (.cells (bytesRow (str Y) cap) t ((bytesRow (str Y) cap).size, (bytesRow (str Y) cap).size + 1))).drew) ∧ Below w.heap.size w ((w.alloc (.cells (bytesRow (str Y) cap) t ((bytesRow (str Y) cap).size, (bytesRow (str Y) cap).size + 1))).drew) := by
  have hs : Y.length ≤ (bytesRow (str Y) cap).size := by
    unfold bytesRow
    rw [Array.size_append, Array.size_map]
    show Y.length ≤ Y.toArray.size + _
    simp
  refine ⟨⟨by simp [World.drew], fun j hj => ?_, fun j hj => ?_⟩, below_dr ((Below.refl _ _).alloc (Nat.le_refl _) _) 1⟩
  · show (w.alloc _).cell? ⟨w.heap.size, j, none⟩ = _
    rw [World.cell?_alloc_mark]
    have h1 : (bytesRow (str Y) cap)[j]? = (((str Y).data.map fun b => Value.int .u8 b.toNat) ++ Array.replicate (cap - (str Y).size) (.int .u8 0))[j]? := rfl
    rw [h1, Array.getElem?_append_left (by simpa [str] using hj)]
    simp [str, hj]
  · exact frozen_mark w _ _ _ _ j (by omega)
theorem xor_u8 (a d : UInt8) : bits .xor .u8 (a.toNat : Int) (d.toNat : Int) = ((a ^^^ d).toNat : Int) := by
  have ha := a.toNat_lt
  have hd := d.toNat_lt
  have h : bits .xor .u8 (a.toNat : Int) (d.toNat : Int) = IntKind.u8.wrap ((BitVec.ofInt 8 (a.toNat : Int) ^^^ BitVec.ofInt 8 (d.toNat : Int)).toNat : Int) := rfl
  rw [h, BitVec.toNat_xor, BitVec.ofInt_natCast, BitVec.ofInt_natCast, BitVec.toNat_ofNat, BitVec.toNat_ofNat, Nat.mod_eq_of_lt (by omega), Nat.mod_eq_of_lt (by omega), ← UInt8.toNat_xor]
  have := (a ^^^ d).toNat_lt
  generalize (a ^^^ d).toNat = m at *
  simp only [IntKind.wrap, IntKind.bits, IntKind.signed]
  simp
  omega
theorem xor_ne (a d : UInt8) (h : d ≠ 0) : a ≠ a ^^^ d := fun e => h (by
  have : a ^^^ a = a ^^^ (a ^^^ d) := congrArg (a ^^^ ·) e
  rw [← UInt8.xor_assoc, UInt8.xor_self, UInt8.zero_xor] at this
  exact this.symm)
theorem BW.set {Y : List UInt8} {b k : Nat} {c : UInt8} {w : World} (h : BW Y b w) (hk : k < Y.length) : BW (Y.set k c) b (w.setCell ⟨b, k, none⟩ (.int .u8 (c.toNat : Int))) := by
  refine ⟨by rw [World.size_setCell]; exact h.1, fun j hj => ?_, fun j hj => by rw [World.frozen?_setCell]; exact h.2.2 j (by simpa using hj)⟩
  have hj' : j < Y.length := by simpa using hj
  by_cases e : j = k
  · subst e
    rw [World.cell?_setCell_same w ⟨b, j, none⟩ _ (h.2.1 j hj')]
    simp
  · rw [World.cell?_setCell_other w ⟨b, k, none⟩ ⟨b, j, none⟩ _ (by intro e2; injection e2 with _ e3 _; exact e e3.symm), h.2.1 j hj']
    simp [List.getElem_set_ne (Ne.symm e)]
theorem BW.text {Y : List UInt8} {b cap : Nat} {w : World} (h : BW Y b w) : (convert 35 9 (.slice (some ⟨b, 0, none⟩) Y.length cap)).run Tryd.prog w = .ok (.string (str Y)) w :=
  run_convert_bytes_back (P := Tryd.prog) w 35 9 5 ⟨b, 0, none⟩ cap Y Tryd.underlying35 Tryd.underlying5 Tryd.underlying9 (fun j hj => by
    rw [add_lit]
    exact h.2.1 j hj)
set_option maxRecDepth 100000 in
set_option maxHeartbeats 4000000 in
theorem walk (a0 : Option Addr) (cap0 n0 : Nat) (w : World) (w0 : BytesAt w w.heap.size a0 n0) (npow : PowW w w.heap.size) (nmax : MaxW w w.heap.size) (nerr : ErrW w w.heap.size) :
    Calls Tryd.prog 8 #[.slice a0 n0 cap0] w fun e w' => e = .returned (.bool true) ∧ Below w.heap.size w w' := by
  have W0 := Lib.hid w0
  have NP := Lib.hid npow
  have NM := Lib.hid nmax
  have NE := Lib.hid nerr
  clear w0 npow nmax nerr
  by_cases hbig : (65536 : Int) < (n0 : Int)
  · go_enter Tryd.func8, Tryd.ntmps8
    go_wp2_with (go_at_call 27; refine (c_vBig _ _ _ _).mono ?_; rintro e _ ⟨rfl, rfl⟩)
    go_ret
    exact ⟨rfl, Below.refl _ _⟩
  go_enter Tryd.func8, Tryd.ntmps8
  go_wp2_with fail
  refine (c_vBig _ _ _ _).mono ?_
  rintro e _ ⟨rfl, rfl⟩
  go_wp2_with fail
  refine (c_DrawFormatInt a0 n0 cap0 _ W0.out (by omega)).mono ?_
  rintro e w1 ⟨n, rfl, hn, b1⟩
  have B1 := Lib.hid b1
  clear b1
  go_wp2_with fail
  refine (c_implFormatInt n _ (NP.out.keep B1.out (Nat.le_refl _))).mono ?_
  rintro e w2 ⟨rfl, b2⟩
  have B2 := Lib.hid (B1.out.trans (b2.mono B1.out.size))
  clear b2 B1
  go_wp2_with fail
  refine (c_specFormatInt n _).mono ?_
  rintro e w3 ⟨rfl, b3⟩
  have B3 := Lib.hid (B2.out.trans (b3.mono B2.out.size))
  clear b3 B2
  have HF := Lib.hid (fun h => fmt_y (n := n) h)
  have HFL := Lib.hid (fmt_len n)
  generalize fmtT n = F at *
  generalize numOk n = okF at *
  go_wp2_with fail
  refine (c_DrawParseInt a0 n0 cap0 _ ((W0.out.keep B3.out).more B3.out.size) (by omega)).mono ?_
  rintro e w4 ⟨t, rfl, ht, b4⟩
  have B4 := Lib.hid (B3.out.trans (b4.mono B3.out.size))
  clear b4 B3
  go_wp2_with fail
  refine (c_implParseInt t _ (NP.out.keep B4.out (Nat.le_refl _)) (NE.out.keep B4.out (Nat.le_refl _)) B4.out.size (by omega)).mono ?_
  rintro e w5 ⟨rfl, b5⟩
  have B5 := Lib.hid (B4.out.trans (b5.mono B4.out.size))
  clear b5 B4
  go_wp2_with fail
  refine (c_specParseInt t _ (by omega)).mono ?_
  rintro e _ ⟨rfl, q6, rfl⟩
  have B6 := Lib.hid (below_dr B5.out q6)
  clear B5
  generalize rdV t.data.toList = tv at *
  generalize rdOk t.data.toList = tok at *
  go_wp2_with fail
  refine (c_DrawAppendChecksum a0 n0 cap0 _ ((W0.out.keep B6.out).more B6.out.size) (by omega)).mono ?_
  rintro e w7 ⟨x, rfl, hx, b7⟩
  obtain ⟨l, rfl⟩ : ∃ l, x = str l := ⟨x.data.toList, (str_list x).symm⟩
  rw [str_size] at hx
  have B7 := Lib.hid (B6.out.trans (b7.mono B6.out.size))
  clear b7 B6
  go_wp2_with fail
  refine (c_implAppendChecksum l _ (NM.out.keep B7.out (Nat.le_refl _)) (NP.out.keep B7.out (Nat.le_refl _)) (by omega)).mono ?_
  rintro e w8 ⟨rfl, b8⟩
  have B8 := Lib.hid (B7.out.trans (b8.mono B7.out.size))
  clear b8 B7
  go_wp2_with fail
  refine (c_specAppendChecksum l _ (by omega)).mono ?_
  rintro e w9 ⟨rfl, b9⟩
  have B9 := Lib.hid (B8.out.trans (b9.mono B8.out.size))
  clear b9 B8
  have HY := Lib.hid (fun h => app_y (l := l) h)
  have HN := Lib.hid (fun h => app_n (l := l) h)
  have HYL := app_len l
  generalize appT l = Y at *
  generalize appOk l = okY at *
  have CP := Lib.hid (c_implParseInt (str F) w9 (NP.out.keep B9.out (Nat.le_refl _)) (NE.out.keep B9.out (Nat.le_refl _)) B9.out.size (by rw [str_size]; have := HFL.out; omega))
  simp only [list_str] at CP
  cases okF
  · generalize rdV F = r at *
    generalize rdOk F = f at *
    clear HF HFL
    go_wp2_with fail
    refine CP.out.mono ?_
    rintro e w10 ⟨rfl, b10⟩
    have B10 := Lib.hid (B9.out.trans (b10.mono B9.out.size))
    clear b10 B9 CP
    cases okY
    · have hY := HN.out rfl
      subst hY
      rw [show str ([] : List UInt8) = (⟨#[]⟩ : ByteArray) from rfl]
      go_wp2_with fail
      go_ret
      exact ⟨rfl, B10.out⟩
    obtain ⟨y1, y2, y3, y4⟩ := HY.out rfl
    have HY4 := Lib.hid y4
    clear y4 HY HN
    have CV := Lib.hid (c_implVerifyChecksum Y w10 (NM.out.keep B10.out (Nat.le_refl _)) (NP.out.keep B10.out (Nat.le_refl _)) B10.out.size (by omega))
    rw [y1, y2] at CV
    clear y1 y2
    go_wp2_with fail
    refine CV.out.mono ?_
    rintro e w11 ⟨rfl, b11⟩
    have B11 := Lib.hid (B10.out.trans (b11.mono B10.out.size))
    clear b11 B10 CV
    have hcb := fun W => run_bytes_of_string (P := Tryd.prog) W 9 35 5 (str Y) Tryd.underlying9 Tryd.underlying35 Tryd.underlying5
    simp only [str_size] at hcb
    go_wp2_with fail
    have HW := Lib.hid (bytes_world w11 Y (grownCap w11 Y.length 0 5) 5)
    have B12 := Lib.hid (B11.out.trans (HW.out.2.mono B11.out.size))
    have HW13 := Lib.hid HW.out.1
    generalize World.drew (World.alloc w11 _) = w12 at *
    obtain ⟨i, hi, CV9⟩ := c_vAt a0 n0 cap0 9 w12 ((W0.out.keep B12.out).more B12.out.size) (by omega) (by omega)
    have B13 := Lib.hid (below_dr B12.out 1)
    obtain ⟨c0, hc0, CV10⟩ := c_vAt a0 n0 cap0 10 (w12.drewN 1) ((W0.out.keep B13.out).more B13.out.size) (by omega) (by omega)
    have CV10 := Lib.hid CV10
    have HSZ := Lib.hid B11.out.size
    clear B11 HW hcb
    have hyz : ¬ (Y.length : Int) = 0 := by omega
    obtain ⟨k, hk, hkl⟩ : ∃ k : Nat, (i : Int) % (Y.length : Int) = (k : Int) ∧ k < Y.length := ⟨i % Y.length, rfl, Nat.mod_lt _ y3⟩
    obtain ⟨e0, he0, hel⟩ : ∃ e : Nat, (c0 : Int).tmod 255 = (e : Int) ∧ e < 255 := ⟨c0 % 255, rfl, Nat.mod_lt _ (by omega)⟩
    obtain ⟨g, hg⟩ : ∃ g : UInt8, g = UInt8.ofNat (e0 + 1) := ⟨_, rfl⟩
    have hgn : g.toNat = e0 + 1 := by rw [hg]; simp; omega
    have hg0 : g ≠ 0 := fun e => by rw [e] at hgn; simp at hgn
    have p1 : IntKind.i64.wrap (1 + (e0 : Int)) = (g.toNat : Int) := by rw [IntWalk.i64_in _ (by omega), hgn]; omega
    have p2 : IntKind.u8.wrap (g.toNat : Int) = (g.toNat : Int) := by
      have := g.toNat_lt
      simp only [IntKind.wrap, IntKind.bits, IntKind.signed]
      simp
      omega
    have p3 := xor_u8 Y[k] g
    have HNE := Lib.hid (xor_ne Y[k] g hg0)
    have HV := Lib.hid (HY4.out k (Y[k] ^^^ g) hkl HNE.out)
    have hce := HW13.out.2.1 k hkl
    have hfr := HW13.out.2.2 k hkl
    generalize Y[k] ^^^ g = c at *
    generalize Y[k] = y0 at *
    clear hg hgn hg0 hel HNE HY4
    refine CV9.mono ?_
    rintro e wz ⟨rfl, rfl⟩
    go_wp2_with fail
    refine wp_region_still_tail 13 (by kernel_rfl) (by kernel_rfl) ?_
    simp only [List.take_succ_cons, List.take_zero, List.drop_succ_cons, List.drop_zero]
    repeat still_step
    still_call CV10.out
    repeat still_step
    refine wpStill_nil ?_
    change wpList _ _ _ _ _ (World.drewN _ 1)
    have HZ := Lib.hid ((HW13.out.keep (below_dr (Below.refl _ _) 1)).set (k := k) (c := c) hkl)
    have hle : w.heap.size ≤ w11.heap.size := HSZ.out
    have BZ := Lib.hid (B13.out.setCell (p := ⟨w11.heap.size, k, none⟩) hle (.int .u8 (c.toNat : Int)))
    have hcv := fun cap => HZ.out.text (cap := cap)
    simp only [List.length_set] at hcv
    have CZ := Lib.hid (c_implVerifyChecksum (Y.set k c) _ (NM.out.keep BZ.out (Nat.le_refl _)) (NP.out.keep BZ.out (Nat.le_refl _)) BZ.out.size (by rw [List.length_set]; omega))
    rw [HV.out] at CZ
    clear p1 p2 p3 he0 HV HZ
    generalize Y.set k c = Z at *
    go_wp2_with fail
    refine CZ.out.mono ?_
    rintro e wy ⟨rfl, by_⟩
    have BY := Lib.hid (BZ.out.trans (by_.mono BZ.out.size))
    clear by_ BZ CZ
    go_wp2
    go_ret
    exact ⟨rfl, BY.out⟩
  · obtain ⟨e1, e2⟩ := HF.out rfl
    rw [e1, e2] at CP
    clear e1 e2
    clear HF HFL
    go_wp2_with fail
    refine CP.out.mono ?_
    rintro e w10 ⟨rfl, b10⟩
    have B10 := Lib.hid (B9.out.trans (b10.mono B9.out.size))
    clear b10 B9 CP
    cases okY
    · have hY := HN.out rfl
      subst hY
      rw [show str ([] : List UInt8) = (⟨#[]⟩ : ByteArray) from rfl]
      go_wp2_with fail
      go_ret
      exact ⟨rfl, B10.out⟩
    obtain ⟨y1, y2, y3, y4⟩ := HY.out rfl
    have HY4 := Lib.hid y4
    clear y4 HY HN
    have CV := Lib.hid (c_implVerifyChecksum Y w10 (NM.out.keep B10.out (Nat.le_refl _)) (NP.out.keep B10.out (Nat.le_refl _)) B10.out.size (by omega))
    rw [y1, y2] at CV
    clear y1 y2
    go_wp2_with fail
    refine CV.out.mono ?_
    rintro e w11 ⟨rfl, b11⟩
    have B11 := Lib.hid (B10.out.trans (b11.mono B10.out.size))
    clear b11 B10 CV
    have hcb := fun W => run_bytes_of_string (P := Tryd.prog) W 9 35 5 (str Y) Tryd.underlying9 Tryd.underlying35 Tryd.underlying5
    simp only [str_size] at hcb
    go_wp2_with fail
    have HW := Lib.hid (bytes_world w11 Y (grownCap w11 Y.length 0 5) 5)
    have B12 := Lib.hid (B11.out.trans (HW.out.2.mono B11.out.size))
    have HW13 := Lib.hid HW.out.1
    generalize World.drew (World.alloc w11 _) = w12 at *
    obtain ⟨i, hi, CV9⟩ := c_vAt a0 n0 cap0 9 w12 ((W0.out.keep B12.out).more B12.out.size) (by omega) (by omega)
    have B13 := Lib.hid (below_dr B12.out 1)
    obtain ⟨c0, hc0, CV10⟩ := c_vAt a0 n0 cap0 10 (w12.drewN 1) ((W0.out.keep B13.out).more B13.out.size) (by omega) (by omega)
    have CV10 := Lib.hid CV10
    have HSZ := Lib.hid B11.out.size
    clear B11 HW hcb
    have hyz : ¬ (Y.length : Int) = 0 := by omega
    obtain ⟨k, hk, hkl⟩ : ∃ k : Nat, (i : Int) % (Y.length : Int) = (k : Int) ∧ k < Y.length := ⟨i % Y.length, rfl, Nat.mod_lt _ y3⟩
    obtain ⟨e0, he0, hel⟩ : ∃ e : Nat, (c0 : Int).tmod 255 = (e : Int) ∧ e < 255 := ⟨c0 % 255, rfl, Nat.mod_lt _ (by omega)⟩
    obtain ⟨g, hg⟩ : ∃ g : UInt8, g = UInt8.ofNat (e0 + 1) := ⟨_, rfl⟩
    have hgn : g.toNat = e0 + 1 := by rw [hg]; simp; omega
    have hg0 : g ≠ 0 := fun e => by rw [e] at hgn; simp at hgn
    have p1 : IntKind.i64.wrap (1 + (e0 : Int)) = (g.toNat : Int) := by rw [IntWalk.i64_in _ (by omega), hgn]; omega
    have p2 : IntKind.u8.wrap (g.toNat : Int) = (g.toNat : Int) := by
      have := g.toNat_lt
      simp only [IntKind.wrap, IntKind.bits, IntKind.signed]
      simp
      omega
    have p3 := xor_u8 Y[k] g
    have HNE := Lib.hid (xor_ne Y[k] g hg0)
    have HV := Lib.hid (HY4.out k (Y[k] ^^^ g) hkl HNE.out)
    have hce := HW13.out.2.1 k hkl
    have hfr := HW13.out.2.2 k hkl
    generalize Y[k] ^^^ g = c at *
    generalize Y[k] = y0 at *
    clear hg hgn hg0 hel HNE HY4
    refine CV9.mono ?_
    rintro e wz ⟨rfl, rfl⟩
    go_wp2_with fail
    refine wp_region_still_tail 13 (by kernel_rfl) (by kernel_rfl) ?_
    simp only [List.take_succ_cons, List.take_zero, List.drop_succ_cons, List.drop_zero]
    repeat still_step
    still_call CV10.out
    repeat still_step
    refine wpStill_nil ?_
    change wpList _ _ _ _ _ (World.drewN _ 1)
    have HZ := Lib.hid ((HW13.out.keep (below_dr (Below.refl _ _) 1)).set (k := k) (c := c) hkl)
    have hle : w.heap.size ≤ w11.heap.size := HSZ.out
    have BZ := Lib.hid (B13.out.setCell (p := ⟨w11.heap.size, k, none⟩) hle (.int .u8 (c.toNat : Int)))
    have hcv := fun cap => HZ.out.text (cap := cap)
    simp only [List.length_set] at hcv
    have CZ := Lib.hid (c_implVerifyChecksum (Y.set k c) _ (NM.out.keep BZ.out (Nat.le_refl _)) (NP.out.keep BZ.out (Nat.le_refl _)) BZ.out.size (by rw [List.length_set]; omega))
    rw [HV.out] at CZ
    clear p1 p2 p3 he0 HV HZ
    generalize Y.set k c = Z at *
    go_wp2_with fail
    refine CZ.out.mono ?_
    rintro e wy ⟨rfl, by_⟩
    have BY := Lib.hid (BZ.out.trans (by_.mono BZ.out.size))
    clear by_ BZ CZ
    go_wp2
    go_ret
    exact ⟨rfl, BY.out⟩

theorem own : ownKnob Tryd.prog.godebug = none := by kernel_rfl
theorem laidOut : laidOutB Tryd.prog = true := by kernel_rfl

set_option maxRecDepth 100000 in
theorem lifted (os : Os) (started : os.Started) (H : Type) (enc : TypeId × Value → H) :
    ReturnsInHanded {} Tryd.checked os 8 .any (fun w args => (Rows.fnStringsSpec.pre enc Tryd.prog Tryd.f8 [] false w args ∧ laidMetH Tryd.prog Rows.fnStringsRow.laid w) ∧ sizedMet enc Tryd.prog Tryd.f8 (OpenSpec.ofChange Rows.fnStringsSpec) false w args)
      (Rows.fnStringsSpec.post enc Tryd.prog Tryd.f8 false true false false) := by
  refine returns_all (C := Tryd.checked) (X := (fun w _ => laidMetH Tryd.prog Rows.fnStringsRow.laid w)) (fun _ _ _ hh h => h.of_heap hh) own started (by kernel_rfl) Tryd.func8
    (ChangeSpec.witness_shaped (enc := enc) (C := Tryd.checked) (os := os) (X := (fun w _ => laidMetH Tryd.prog Rows.fnStringsRow.laid w)) false (World.laidAll Tryd.prog os Rows.fnStringsRow.laid) #[.slice none 0 0] 8 (World.laidAll_os _ _ _)
      (World.shaped_of_ZipB (by kernel_rfl) (by kernel_rfl)) (by kernel_rfl) (by kernel_rfl) (by kernel_rfl)
      (by rw [MakeChecks.laidMetH_plain _ _ _ (by kernel_rfl)]; exact laidMet_laidAll _ (by kernel_rfl) (by kernel_rfl))) ?_
  intro W base args ds gs before hval0 hW _ _ hL hsh
  rw [MakeChecks.laidMetH_plain _ _ _ (by kernel_rfl)] at hL
  have npow : PowW W W.heap.size := pow_of_reads (Lib.laidMet.reads hL (n := "internal/strconv.uint64pow10") (d := Rows.laid_internal_strconv_uint64pow10) (by simp only [Rows.fnStringsRow]; first | exact .head _ | exact .tail _ (.head _) | exact .tail _ (.tail _ (.head _)) | exact .tail _ (.tail _ (.tail _ (.head _))) | exact .tail _ (.tail _ (.tail _ (.tail _ (.head _)))) | exact .tail _ (.tail _ (.tail _ (.tail _ (.tail _ (.head _))))) | exact .tail _ (.tail _ (.tail _ (.tail _ (.tail _ (.tail _ (.head _))))))))
  have nmax : MaxW W W.heap.size := MaxW.of_shape hsh (Nat.le_refl _)
  have nerr : ErrW W W.heap.size := err_of_reads (Lib.laidMet.reads hL (n := "strconv.ErrSyntax") (d := Rows.laid_strconv_ErrSyntax) (by simp only [Rows.fnStringsRow]; first | exact .head _ | exact .tail _ (.head _) | exact .tail _ (.tail _ (.head _)) | exact .tail _ (.tail _ (.tail _ (.head _))) | exact .tail _ (.tail _ (.tail _ (.tail _ (.head _)))) | exact .tail _ (.tail _ (.tail _ (.tail _ (.tail _ (.head _))))) | exact .tail _ (.tail _ (.tail _ (.tail _ (.tail _ (.tail _ (.head _)))))))) (Lib.laidMet.reads hL (n := "strconv.ErrRange") (d := Rows.laid_strconv_ErrRange) (by simp only [Rows.fnStringsRow]; first | exact .head _ | exact .tail _ (.head _) | exact .tail _ (.tail _ (.head _)) | exact .tail _ (.tail _ (.tail _ (.head _))) | exact .tail _ (.tail _ (.tail _ (.tail _ (.head _)))) | exact .tail _ (.tail _ (.tail _ (.tail _ (.tail _ (.head _))))) | exact .tail _ (.tail _ (.tail _ (.tail _ (.tail _ (.tail _ (.head _))))))))
  have hval : ∀ (j : Nat) t v, Tryd.f8.params[j]? = some t → args[j]? = some v → Value.okWide Tryd.prog W .any base t v := hval0
  have hW' := hW
  obtain ⟨p, q, hA0, hV, rfl, hfz, hnd⟩ := hW
  have hA : DataW.TrodAll enc Tryd.prog W 0 (fun _ => true) true Tryd.f8.params.toList args.toList ds p := hA0
  rw [Tryd.params8] at hA hval
  obtain ⟨v0, vs0, d0, ds0, p0, q0, hargs, rfl, rfl, h0, r0⟩ := trodAll_cons hA
  obtain ⟨rfl, rfl, rfl⟩ := trodAll_nil r0
  obtain rfl : args = #[v0] := by cases args; simp_all
  obtain ⟨rfl, rfl⟩ := trodVars_none hV
  have k0 := h0
  have lt0 : ∀ x ∈ p0, x.block < W.heap.size := by obtain ⟨m, hm⟩ := k0; exact DataW.trod_lt m _ _ _ hm
  obtain ⟨a0, cap0, n0, rfl, w0⟩ := open_bytes' (hval 0 35 v0 rfl rfl) h0
  clear hA0 hval0
  refine (walk a0 cap0 n0 W w0 npow nmax nerr).mono fun e W' ⟨he, bel⟩ => ?_
  subst he
  exact ⟨_, rfl, _, _, _, [], _, [], hW', trodAll_mk1 (shut_bool Tryd.underlying4 _), (trodAll_cons_mk (Below.trod laidOut (by kernel_rfl) (of_decide_eq_true (by kernel_rfl)) k0 bel lt0) trodAll_mk0), rfl, bel.frame _, fun h => by cases h⟩

theorem over : Rows.fnStringsRow.holds Tryd.pinned (OpenSpec.ofChange Rows.fnStringsSpec) :=
  OpenClaim.holds_of_wide 8 Tryd.f8 rfl rfl rfl rfl rfl rfl rfl ⟨rfl, rfl, rfl, rfl, rfl⟩ rfl rfl rfl rfl rfl (by kernel_rfl) Tryd.func8 (by kernel_rfl)
    (of_decide_eq_true (by kernel_rfl)) (by unfold Func.isWrapper; first | (rw [if_pos (by decide +kernel)]; kernel_rfl) | (rw [if_neg (by decide +kernel)]; exact ⟨rfl, rfl⟩))
    (fun os started H enc _ => lifted os started H enc)

/-- THE STATEMENT: the tied card. -/
theorem proved : Rows.FnStringsCardSaid :=
  Claim7.holds_tied_plain_at .later [] Rows.fnStringsCard.laidKinds true Rows.fnStringsCard.stood.harness Rows.fnStringsCard.stood.looks over (fun _ h => by cases h) (by kernel_rfl) (fun _ h => by cases h) fnStrings_row_tie rfl ⟨rfl, rfl⟩ (by kernel_rfl) rfl
    (fun f fn hf hfn => by
      obtain rfl : f = 8 := Option.some.inj ((show Tryd.prog.funcNamed Rows.fnStringsRow.func = some 8 by kernel_rfl).symm.trans hf) |>.symm
      obtain rfl : fn = Tryd.f8 := (Option.some.inj (Tryd.func8.symm.trans hfn)).symm
      exact ⟨by kernel_rfl, fun j t ht => by
        rw [Tryd.params8] at ht
        have hm : t ∈ ([35] : List Nat) := by simpa using Array.mem_of_getElem? ht
        have hall : (([35] : List Nat).all fun u => !Tryd.prog.wantsStandIn u) = true := by kernel_rfl
        exact (show Tryd.prog.wantsStandIn t = false by simpa using List.all_eq_true.1 hall t hm)⟩)
    (by kernel_rfl)
end Go.Proofs.YtnbgjkblhbpjlaaDoor.fnStrings
