/- A packet read from digits, by the reference. -/
import Derived.Test.YtnabiehbecojlaaDoorDecI
namespace Go.Proofs.YtnabiehbecojlaaDoor
open Go.RowKit
set_option linter.unusedVariables false
set_option maxRecDepth 100000

theorem un_len {l : List UInt8} {zs : List Int} (h : unhex l = some zs) : l.length = 2 * zs.length := by
  obtain ⟨i1, i2, i3⟩ := hexL_unhex l.length l zs (Nat.le_refl _) h
  omega
theorem dec_short {l : List UInt8} (h : ¬ (20 ≤ l.length ∧ l.length ≤ 36)) : decOk l = false := by
  refine dec_bad fun ⟨h1, h2, h3⟩ => ?_
  cases hu : unhex l with
  | none => rw [(un_bad hu).2] at h1; cases h1
  | some zs =>
    have := un_len hu
    rw [(un_good hu).1] at h2 h3
    omega
theorem dec_none {l : List UInt8} (h : unhex l = none) : decOk l = false := dec_bad fun ⟨h1, _, _⟩ => by rw [(un_bad h).2] at h1; cases h1
theorem dC_false {l : List UInt8} (h : decOk l = false) : dC l = pkC 0 0 0 0 [] := by unfold dC; rw [h]; rfl
theorem one_u8 (x : UInt8) (w : World) (n : Nat) (hn : w.heap.size = n) : ∀ j u, (ucells [x])[j]? = some u → (w.alloc (.cells #[.int .u8 (x.toNat : Int)] 5)).cell? ((⟨n, 0, none⟩ : Addr).add j) = some u := by
  subst hn
  intro j u hu
  match j, hu with
  | 0, hu => simp [ucells] at hu; subst hu; simp [go_sem]
  | j + 1, hu => simp [ucells] at hu
theorem own_text2 {w : World} {B cap : Nat} {A : Option Addr} {l : List UInt8} (h : OwnU w B A cap l) (h0 : l = [] → ∃ ad, A = some ad) : ∀ W, W = w → (convert 34 9 (.slice A l.length cap)).run Tryd.prog W = .ok (.string (str l)) W := by
  intro W hW
  cases l with
  | nil =>
    obtain ⟨ad, rfl⟩ := h0 rfl
    exact run_convert_bytes_back W _ _ 5 ad cap [] Tryd.underlying34 Tryd.underlying5 Tryd.underlying9 fun j hj => absurd hj (by simp)
  | cons a l => exact own_text h (by simp) W hW
/-- The two boxes that stand ready. -/
def Two0 (w W : World) : Prop := Below w.heap.size w W ∧ PkAt 0 0 0 0 [] w.heap.size W ∧ Free w.heap.size W ∧ PkAt 0 0 0 0 [] (w.heap.size + 1) W ∧ w.heap.size + 2 ≤ W.heap.size
theorem Two0.keep {w W W' : World} (h : Two0 w W) (b : Below W.heap.size W W') : Two0 w W' :=
  ⟨h.1.trans (b.mono h.1.size), h.2.1.keep b, h.2.2.1.keep h.2.1.1 b, h.2.2.2.1.keep b, Nat.le_trans h.2.2.2.2 b.size⟩
theorem Two0.set4 {w W : World} (h : Two0 w W) {b : Nat} (hb : w.heap.size + 2 ≤ b) (v : Value) : Two0 w (W.setCell ⟨b, 4, none⟩ v) := by
  have o : ∀ c k, c < b → (W.setCell ⟨b, 4, none⟩ v).cell? ⟨c, k, none⟩ = W.cell? ⟨c, k, none⟩ := fun c k hc => World.cell?_setCell_other W ⟨b, 4, none⟩ ⟨c, k, none⟩ _ (by intro e; simp only [Addr.mk.injEq] at e; omega)
  obtain ⟨h1, ⟨a, a0, a1, a2, a3, a4⟩, h3, ⟨c, c0, c1, c2, c3, c4⟩, h5⟩ := h
  refine ⟨h1.setCell (p := ⟨b, 4, none⟩) (by show w.heap.size ≤ b; omega) v, ⟨by rw [World.size_setCell]; exact a, ?_, ?_, ?_, ?_, ?_⟩, h3.set _ _, ⟨by rw [World.size_setCell]; exact c, ?_, ?_, ?_, ?_, ?_⟩, by rw [World.size_setCell]; exact h5⟩
  all_goals (rw [o _ _ (by omega)]; assumption)
theorem two0_new (w : World) (T : TypeId) : Two0 w ((w.alloc (.cells #[.int .i64 0, .int .i64 0, .int .i64 0, .int .i64 0, .string ⟨#[]⟩] T)).alloc (.cells #[.int .i64 0, .int .i64 0, .int .i64 0, .int .i64 0, .string ⟨#[]⟩] T)) := by
  have k := fun W : World => (Below.refl W.heap.size W).alloc (Nat.le_refl _) (.cells #[.int .i64 0, .int .i64 0, .int .i64 0, .int .i64 0, .string ⟨#[]⟩] T)
  have s1 : (w.alloc (.cells #[.int .i64 0, .int .i64 0, .int .i64 0, .int .i64 0, .string ⟨#[]⟩] T)).heap.size = w.heap.size + 1 := by simp
  have p := pkAt_new 0 0 0 0 [] w T
  have q := pkAt_new 0 0 0 0 [] (w.alloc (.cells #[.int .i64 0, .int .i64 0, .int .i64 0, .int .i64 0, .string ⟨#[]⟩] T)) T
  rw [s1] at q
  exact ⟨(k w).trans ((k _).mono (k w).size), p.keep (k _), Free.keep (fun j => free_new w _ T j) p.1 (k _), q, by simp⟩
set_option maxHeartbeats 16000000 in
theorem c_l4Decode (l : List UInt8) (w : World) (hl : l.length ≤ 10000000) :
    Calls Tryd.prog 30 #[.string (str l)] w fun e w' => e = .returned (.tuple #[.agg (dC l), .bool (decOk l)]) ∧ Below w.heap.size w w' := by
  have hsz : (str l).size = l.length := str_size l
  have TW := Lib.hid (two0_new w 27)
  have HC0 := Lib.hid (@dC_false l)
  by_cases hodd : l.length % 2 = 1
  · have HD := Lib.hid (dec_none (unhex_odd l.length l (Nat.le_refl _) hodd))
    have hm : ((l.length : Int)).tmod 2 = 1 := by rw [Int.tmod_eq_emod_of_nonneg (by omega)]; omega
    clear hodd
    go_enter Tryd.func30, Tryd.ntmps30
    go_wp2_with fail
    generalize (w.alloc (.cells #[.int .i64 0, .int .i64 0, .int .i64 0, .int .i64 0, .string ⟨#[]⟩] 27)).alloc (.cells #[.int .i64 0, .int .i64 0, .int .i64 0, .int .i64 0, .string ⟨#[]⟩] 27) = W2 at *
    obtain ⟨bz, ⟨_, z0, z1, z2, z3, z4⟩, _, _, _⟩ := TW.out
    refine bodyPost_ret (v := .tuple #[.agg #[.int .i64 0, .int .i64 0, .int .i64 0, .int .i64 0, .string (str [])], .bool false]) (by simp [results, Tryd.results30, go_sem, z0, z1, z2, z3, z4]) rfl ⟨?_, bz⟩
    rw [HC0.out HD.out, HD.out]
    first | done | rfl
  have hm : ((l.length : Int)).tmod 2 = 0 := by rw [Int.tmod_eq_emod_of_nonneg (by omega)]; omega
  have C0 := fun W => Lib.hid (c_l1In l.length 20 36 W)
  by_cases hs : 20 ≤ l.length ∧ l.length ≤ 36
  rotate_left
  · have HD := Lib.hid (dec_short hs)
    have HR : Hid (inR (l.length : Int) 20 36 = false) := Lib.hid (inR_n (by omega))
    clear hodd hs
    go_enter Tryd.func30, Tryd.ntmps30
    go_wp2_with fail
    refine (C0 _).out.mono ?_
    rw [HR.out]
    rintro e _ ⟨rfl, rfl⟩
    go_wp2_with fail
    generalize (w.alloc (.cells #[.int .i64 0, .int .i64 0, .int .i64 0, .int .i64 0, .string ⟨#[]⟩] 27)).alloc (.cells #[.int .i64 0, .int .i64 0, .int .i64 0, .int .i64 0, .string ⟨#[]⟩] 27) = W2 at *
    obtain ⟨bz, ⟨_, z0, z1, z2, z3, z4⟩, _, _, _⟩ := TW.out
    refine bodyPost_ret (v := .tuple #[.agg #[.int .i64 0, .int .i64 0, .int .i64 0, .int .i64 0, .string (str [])], .bool false]) (by simp [results, Tryd.results30, go_sem, z0, z1, z2, z3, z4]) rfl ⟨?_, bz⟩
    rw [HC0.out HD.out, HD.out]
    first | done | rfl
  obtain ⟨n, hn⟩ : ∃ n, l.length / 2 = n := ⟨_, rfl⟩
  have HL : Hid (l.length = 2 * n) := Lib.hid (by omega)
  have l1 : l.length ≤ 2 * n := by omega
  have l2 : 2 * n ≤ l.length := by omega
  obtain ⟨g20, g36⟩ := hs
  have HR : Hid (inR (l.length : Int) 20 36 = true) := Lib.hid (by
    unfold inR
    simp only [decide_eq_true_eq]
    omega)
  have C := fun b W => Lib.hid (c_l4Digit b W)
  clear hodd hn
  go_enter Tryd.func30, Tryd.ntmps30
  go_wp2_with fail
  refine (C0 _).out.mono ?_
  rw [HR.out]
  rintro e _ ⟨rfl, rfl⟩
  clear C0 HR
  go_wp2_with fail
  have HSZ : Hid (((w.alloc (.cells #[.int .i64 0, .int .i64 0, .int .i64 0, .int .i64 0, .string ⟨#[]⟩] 27)).alloc (.cells #[.int .i64 0, .int .i64 0, .int .i64 0, .int .i64 0, .string ⟨#[]⟩] 27)).heap.size = w.heap.size + 1 + 1) := Lib.hid (by simp)
  generalize (w.alloc (.cells #[.int .i64 0, .int .i64 0, .int .i64 0, .int .i64 0, .string ⟨#[]⟩] 27)).alloc (.cells #[.int .i64 0, .int .i64 0, .int .i64 0, .int .i64 0, .string ⟨#[]⟩] 27) = W2 at *
  go_loopw [3, 5, 6] (fun s3 v i wr => ∃ j m : Nat, j ≤ n ∧ i = .int .i64 m ∧ Hid (m = 2 * j) ∧ ∃ A cap, v = .slice A j cap ∧ Hid (OwnI wr W2.heap.size A cap (octJs l j) ∧ Below W2.heap.size W2 wr ∧ ∀ k, k < j → ¬ badAt l k)) (fun _ _ i _ => l.length + 1 - (intOf i).toNat)
  case atStart =>
    refine ⟨0, 0, Nat.zero_le _, rfl, Lib.hid rfl, some ⟨w.heap.size + 1 + 1, 0, none⟩, 0, rfl, Lib.hid ⟨by rw [← HSZ.out]; exact OwnI.empty _ _ (Nat.le_refl _), (Below.refl _ _).alloc (Nat.le_refl _) _, fun k h => absurd h (by omega)⟩⟩
  case round =>
    obtain ⟨j, m, hj, rfl, hmj, A, cap, rfl, HB⟩ := hrel
    have m1 : m ≤ 2 * j := Nat.le_of_eq hmj.out
    have m2 : 2 * j ≤ m := Nat.le_of_eq hmj.out.symm
    have TR := Lib.hid (TW.out.keep HB.out.2.1)
    by_cases hlt : j < n
    · have s1 := run_index_str l m m rfl (by omega)
      have s2 := run_index_str l (m + 1) ((m : Int) + 1) (by omega) (by omega)
      have w1 : IntKind.i64.wrap ((m : Int) + 1) = (m : Int) + 1 := IntWalk.i64_in _ (by omega)
      have w2 : IntKind.i64.wrap ((m : Int) + 2) = (m : Int) + 2 := IntWalk.i64_in _ (by omega)
      have hi : (m : Int) < (l.length : Int) := by omega
      have HO : Hid (octAt l j = 16 * digI (l.getD m 0) + digI (l.getD (m + 1) 0)) := Lib.hid (by unfold octAt; rw [hmj.out])
      have HBad : Hid (badAt l j ↔ digI (l.getD m 0) < 0 ∨ digI (l.getD (m + 1) 0) < 0) := Lib.hid (by unfold badAt; rw [hmj.out])
      have HUB := Lib.hid (fun h => dec_none (unhex_bad j l (by omega) h))
      rw [← hmj.out] at HUB
      have r1 := digI_rng (l.getD m 0)
      have r2 := digI_rng (l.getD (m + 1) 0)
      generalize l.getD m 0 = x at *
      generalize l.getD (m + 1) 0 = y at *
      have HLJ := Lib.hid (octJs_length l j)
      have HN := Lib.hid (octJs_snoc l j)
      obtain ⟨bz, ⟨_, y0, y1, y2, y3, y4⟩, fz, ⟨_, z0, z1, z2, z3, z4⟩, _⟩ := TR.out
      have f0 := fz 0
      have f1 := fz 1
      have f2 := fz 2
      have f3 := fz 3
      have f4 := fz 4
      have BZ := Lib.hid bz
      clear bz fz
      go_wp2_with fail
      go_quiet ((go_at_call 55; exact quiet_left (C _ _).out))
      generalize digI x = a at *
      generalize digI y = b at *
      by_cases ha : a < 0
      · have HD := Lib.hid (HUB.out (.inl ha))
        clear HUB HBad
        go_wp2_with fail
        refine bodyPost_ret (v := .tuple #[.agg #[.int .i64 0, .int .i64 0, .int .i64 0, .int .i64 0, .string (str [])], .bool false]) (by simp [results, Tryd.results30, go_sem, y0, y1, y2, y3, y4]) rfl ⟨?_, set5 (below_dr BZ.out _) (Nat.le_refl _) _ _ _ _ _⟩
        rw [HC0.out HD.out, HD.out]
        first | done | rfl
      by_cases hb : b < 0
      · have HD := Lib.hid (HUB.out (.inr hb))
        clear HUB HBad
        go_wp2_with fail
        refine bodyPost_ret (v := .tuple #[.agg #[.int .i64 0, .int .i64 0, .int .i64 0, .int .i64 0, .string (str [])], .bool false]) (by simp [results, Tryd.results30, go_sem, y0, y1, y2, y3, y4]) rfl ⟨?_, set5 (below_dr BZ.out _) (Nat.le_refl _) _ _ _ _ _⟩
        rw [HC0.out HD.out, HD.out]
        first | done | rfl
      clear y0 y1 y2 y3 y4 f0 f1 f2 f3 f4 BZ z0 z1 z2 z3 z4
      have v1 : IntKind.i64.wrap (16 * a) = 16 * a := IntWalk.i64_in _ (by omega)
      have v2 : IntKind.i64.wrap (16 * a + b) = 16 * a + b := IntWalk.i64_in _ (by omega)
      have HB' := Lib.hid (fun n => HB.out.1.keep (below_dr (Below.refl _ wr) n))
      have hs := HB.out.2.1.size
      have HG : Hid (¬ badAt l j) := Lib.hid (fun h => by
        rcases HBad.out.1 h with h | h
        · exact ha h
        · exact hb h)
      clear HUB HBad
      go_wp2_with (at_builtin; refine wpList_appI _ rfl _ _ rfl W2.heap.size A cap (octJs l j) (by rw [HLJ.out]; rfl) ((HB'.out _).push _) _ _ rfl (new1_cell _ _ _) (by rw [HLJ.out]; omega) (by simp; omega) ?_; rw [HLJ.out]; intro A2 c2 w3 o2 b2)
      rw [← HO.out, ← HN.out] at o2
      have HB2 := Lib.hid (HB.out.2.1.trans (((below_dr (Below.refl W2.heap.size wr) _).alloc hs _).trans b2))
      have HO2 := Lib.hid o2
      clear o2 b2 HB'
      go_wp2
      go_roundw
      case rel => exact ⟨j + 1, m + 2, by omega, by go_num, Lib.hid (by rw [hmj.out]; omega), A2, c2, by go_num, Lib.hid ⟨HO2.out, HB2.out, fun k hk => by
        rcases Nat.lt_succ_iff_lt_or_eq.1 hk with h | rfl
        · exact HB.out.2.2 k h
        · exact HG.out⟩⟩
      case measure => simp [intOf]; omega
    · obtain rfl : j = n := by omega
      have hmm : ¬ (m : Int) < (l.length : Int) := by omega
      have HU0 := un_good (unhex_all j l HL.out HB.out.2.2)
      have HJ : Hid (OwnI wr W2.heap.size A cap (unz l)) := Lib.hid (by rw [HU0.1]; exact HB.out.1)
      have hj2 : j = (unz l).length := by rw [HU0.1]; exact (octJs_length l j).symm
      have hzl : (unz l).length ≤ 18 ∧ 10 ≤ (unz l).length := by omega
      have HD := Lib.hid (dec_good HU0.2 hzl.2 hzl.1)
      have HU : Hid (dC l = if decOk l then pkC (pkK (unz l)) (pkN (unz l)) (pkT (unz l)) (pkL (unz l)) (pkD (unz l)) else pkC 0 0 0 0 []) := Lib.hid rfl
      have HX : Hid (IsO (unz l)) := Lib.hid (by
        have := hexL_unhex l.length l _ (Nat.le_refl _) (unhex_all j l HL.out HB.out.2.2)
        rw [HU0.1]
        exact this.1)
      obtain ⟨g18, g10⟩ := hzl
      clear HU0 HB TW HL HC0 hmj m1 m2 l1 l2 C
      subst hj2
      generalize unz l = zs at *
      have HI := Lib.hid HJ.out.ints
      have HL : Hid (∀ k n t l' d, (encR k n t l' d).length ≤ 100) := Lib.hid (fun k n t l' d => by
        unfold encR
        split
        · next h =>
          rw [hexL_length, octL_length]
          have := (goodP_t h).2.2.2.2.2
          omega
        · simp)
      have hnn : ∀ k, k < zs.length → 0 ≤ zs.getD k 0 ∧ zs.getD k 0 ≤ 255 := fun k hk => HX.out _ (by rw [List.getD_eq_getElem?_getD, List.getElem?_eq_getElem hk]; exact List.getElem_mem _)
      have HN := Lib.hid hnn
      clear hnn HJ HX
      obtain ⟨ad, rfl, hadb, c0⟩ := HI.out.at_ (k := 0) (by omega)
      obtain ⟨_, e1, _, c1⟩ := HI.out.at_ (k := 1) (by omega)
      cases e1
      obtain ⟨_, e1, _, c2⟩ := HI.out.at_ (k := 2) (by omega)
      cases e1
      obtain ⟨_, e1, _, c3⟩ := HI.out.at_ (k := 3) (by omega)
      cases e1
      obtain ⟨_, e1, _, c4⟩ := HI.out.at_ (k := 4) (by omega)
      cases e1
      obtain ⟨_, e1, _, c5⟩ := HI.out.at_ (k := 5) (by omega)
      cases e1
      obtain ⟨_, e1, _, c6⟩ := HI.out.at_ (k := 6) (by omega)
      cases e1
      obtain ⟨n10, n11⟩ := HN.out 1 (by omega)
      obtain ⟨n20, n21⟩ := HN.out 2 (by omega)
      obtain ⟨n30, n31⟩ := HN.out 3 (by omega)
      obtain ⟨n40, n41⟩ := HN.out 4 (by omega)
      obtain ⟨n50, n51⟩ := HN.out 5 (by omega)
      obtain ⟨n60, n61⟩ := HN.out 6 (by omega)
      obtain ⟨mm, hm10⟩ : ∃ mm, zs.length - 10 = mm := ⟨_, rfl⟩
      have HK : Hid (pkK zs = zs.getD 0 0 ∧ pkN zs = 256 * zs.getD 1 0 + zs.getD 2 0 ∧ pkT zs = 256 * zs.getD 3 0 + zs.getD 4 0 ∧ pkL zs = 256 * zs.getD 5 0 + zs.getD 6 0 ∧ pkD zs = pkJ zs mm) := Lib.hid ⟨rfl, rfl, rfl, rfl, by rw [← hm10]; rfl⟩
      have HJ := Lib.hid (pkJ_snoc zs)
      have HJL := Lib.hid (pkJ_len zs)
      have HJ0 : Hid (pkJ zs 0 = []) := Lib.hid rfl
      generalize zs.getD 0 0 = y0 at *
      generalize zs.getD 1 0 = y1 at *
      generalize zs.getD 2 0 = y2 at *
      generalize zs.getD 3 0 = y3 at *
      generalize zs.getD 4 0 = y4 at *
      generalize zs.getD 5 0 = y5 at *
      generalize zs.getD 6 0 = y6 at *
      have c0' := c0
      rw [add_zero'] at c0'
      replace c1 : wr.cell? ⟨ad.block, ad.off + 1, none⟩ = some (.int .i64 y1) := by simpa [Addr.add] using c1
      replace c2 : wr.cell? ⟨ad.block, ad.off + 2, none⟩ = some (.int .i64 y2) := by simpa [Addr.add] using c2
      replace c3 : wr.cell? ⟨ad.block, ad.off + 3, none⟩ = some (.int .i64 y3) := by simpa [Addr.add] using c3
      replace c4 : wr.cell? ⟨ad.block, ad.off + 4, none⟩ = some (.int .i64 y4) := by simpa [Addr.add] using c4
      replace c5 : wr.cell? ⟨ad.block, ad.off + 5, none⟩ = some (.int .i64 y5) := by simpa [Addr.add] using c5
      replace c6 : wr.cell? ⟨ad.block, ad.off + 6, none⟩ = some (.int .i64 y6) := by simpa [Addr.add] using c6
      have wr1 := IntWalk.i64_in (256 * y1) (by omega)
      have wr2 := IntWalk.i64_in (256 * y3) (by omega)
      have wr3 := IntWalk.i64_in (256 * y5) (by omega)
      have wr4 := IntWalk.i64_in (256 * y1 + y2) (by omega)
      have wr5 := IntWalk.i64_in (256 * y3 + y4) (by omega)
      have wr6 := IntWalk.i64_in (256 * y5 + y6) (by omega)
      have q0 : (0 : Int) < (zs.length : Int) := by omega
      have q1 : (1 : Int) < (zs.length : Int) := by omega
      have q2 : (2 : Int) < (zs.length : Int) := by omega
      have q3 : (3 : Int) < (zs.length : Int) := by omega
      have q4 : (4 : Int) < (zs.length : Int) := by omega
      have q5 : (5 : Int) < (zs.length : Int) := by omega
      have q6 : (6 : Int) < (zs.length : Int) := by omega
      go_upto_region 12 with fail
      go_cut [9] from 54 to 81 (fun s9 wx => s9 = .pointer (some ⟨wr.heap.size, 0, none⟩) ∧ wx = (wr.alloc (.cells #[.int .i64 y0, .int .i64 (256 * y1 + y2), .int .i64 (256 * y3 + y4), .int .i64 (256 * y5 + y6), .string ⟨#[]⟩] 27)).drew)
      case first => as_aux_lemma =>
        have n0 : 0 < zs.length := by omega
        generalize zs.length = nz at *
        go_region_held3 (fun W => W.cell? (ad.add 0) = some (.int .i64 y0) ∧ W.cell? ad = some (.int .i64 y0) ∧ W.cell? ⟨ad.block, ad.off + 1, none⟩ = some (.int .i64 y1) ∧ W.cell? ⟨ad.block, ad.off + 2, none⟩ = some (.int .i64 y2) ∧ W.cell? ⟨ad.block, ad.off + 3, none⟩ = some (.int .i64 y3) ∧ W.cell? ⟨ad.block, ad.off + 4, none⟩ = some (.int .i64 y4) ∧ W.cell? ⟨ad.block, ad.off + 5, none⟩ = some (.int .i64 y5) ∧ W.cell? ⟨ad.block, ad.off + 6, none⟩ = some (.int .i64 y6)) (refine ⟨?_, ?_, ?_, ?_, ?_, ?_, ?_, ?_⟩ <;> first | assumption | go_keep)
          (first | fail)
        all_goals (go_wp2_with fail; go_meet; exact ⟨rfl, rfl⟩)
      case rest => as_aux_lemma =>
        obtain ⟨rfl, hw⟩ := hcut
        obtain ⟨wq, hwq⟩ : ∃ W : World, W = wr := ⟨_, rfl⟩
        subst hwq
        have KP0 := pkAt_new y0 (256 * y1 + y2) (256 * y3 + y4) (256 * y5 + y6) [] wq 27
        have hsw : wc.heap.size = wq.heap.size + 1 := by rw [hw]; simp
        have KP : Hid (PkAt y0 (256 * y1 + y2) (256 * y3 + y4) (256 * y5 + y6) [] wq.heap.size wc) := Lib.hid (by
          rw [hw]
          exact KP0.keep ((Below.refl _ _).drew))
        have BP : Hid (Below wq.heap.size wq wc) := Lib.hid (by
          rw [hw]
          exact ((Below.refl wq.heap.size wq).alloc (Nat.le_refl _) _).drew)
        have FP : Hid (Free wq.heap.size wc) := Lib.hid (by
          rw [hw]
          intro j
          simp [go_sem])
        have hs1 : wq.heap.size < wc.heap.size := by omega
        clear hw KP0 hsw
        clear c0 c0' c1 c2 c3 c4 c5 c6 wr1 wr2 wr3 wr4 wr5 wr6 q0 q1 q2 q3 q4 q5 q6
        have v1 : IntKind.i64.wrap ((zs.length : Int) - 2) = (zs.length : Int) - 2 := IntWalk.i64_in _ (by omega)
        go_wp2_with fail
        go_loopw [10, 11] (fun v i wr => ∃ j q : Nat, j ≤ mm ∧ i = .int .i64 q ∧ Hid (q = 8 + j) ∧ ∃ A' cap', v = .slice A' (pkJ zs j).length cap' ∧ Hid (OwnU wr wc.heap.size A' cap' (pkJ zs j) ∧ Below wc.heap.size wc wr ∧ (pkJ zs j = [] → ∃ a, A' = some a))) (fun _ i _ => zs.length + 1 - (intOf i).toNat)
        case atStart => exact ⟨0, 8, Nat.zero_le _, rfl, Lib.hid rfl, some ⟨wc.heap.size, 0, none⟩, 0, by rw [HJ0.out]; rfl, Lib.hid ⟨by rw [HJ0.out]; exact OwnU.empty _ _ (Nat.le_refl _), (Below.refl _ _).alloc (Nat.le_refl _) _, fun _ => ⟨_, rfl⟩⟩⟩
        case round =>
          obtain ⟨j, q, hj, rfl, hq, A', cap', rfl, HR⟩ := hrel
          have q1 : q ≤ 8 + j := Nat.le_of_eq hq.out
          have q2 : 8 + j ≤ q := Nat.le_of_eq hq.out.symm
          have BR := Lib.hid (BP.out.trans (HR.out.2.1.mono (Nat.le_of_lt hs1)))
          by_cases hlt : j < mm
          · have hi : (q : Int) < (zs.length : Int) - 2 := by omega
            have hi2 : (q : Int) < (zs.length : Int) := by omega
            obtain ⟨_, e1, _, hc⟩ := (HI.out.keep BR.out).at_ (k := q) (by omega)
            cases e1
            obtain ⟨x0, x1⟩ := HN.out q (by omega)
            have HS := Lib.hid (HJ.out j (by omega))
            rw [← hq.out] at HS
            have hlj := HJL.out j
            generalize zs.getD q 0 = x at *
            have hx := u8_of x0 x1
            generalize UInt8.ofNat x.toNat = b at *
            subst hx
            have hu := u8_nat b
            have hsz2 := HR.out.2.1.size
            obtain ⟨d', hd'⟩ : ∃ d', pkJ zs (j + 1) = d' := ⟨_, rfl⟩
            rw [hd'] at HS
            have HD' := Lib.hid hd'
            clear hd' KP FP BP HL HD HU HK TR HJ HJL HJ0 HN HI
            generalize pkJ zs j = d at *
            go_wp2_with (at_builtin; refine wpList_appU _ rfl _ _ rfl wc.heap.size A' cap' d (by rfl) (HR.out.1.push _) [b] _ 1 (by rfl) (by simp) (one_u8 b _ _ (by rfl)) (by simp; omega) (by simp; omega) ?_; intro A4 c4 w4 o4 b4)
            have HO4 := Lib.hid o4
            have HB4 := Lib.hid (((HR.out.2.1).alloc hsz2 _).trans b4)
            clear o4 b4
            go_wp2
            go_roundw
            case rel => exact ⟨j + 1, q + 1, by omega, by go_num, Lib.hid (by omega), A4, c4, by rw [HD'.out, HS.out]; simp, Lib.hid (by
              rw [HD'.out, HS.out]
              exact ⟨HO4.out, HB4.out, fun e => absurd e (by simp)⟩)⟩
            case measure => simp [intOf]; omega
          · obtain rfl : j = mm := by omega
            have hi : ¬ (q : Int) < (zs.length : Int) - 2 := by omega
            have KR := Lib.hid (KP.out.keep HR.out.2.1)
            have FR := Lib.hid (Free.keep FP.out hs1 HR.out.2.1)
            have T2 := Lib.hid (TR.out.keep BR.out)
            have hcv := own_text2 HR.out.1 HR.out.2.2 wr rfl
            have HE2 := HL.out y0 (256 * y1 + y2) (256 * y3 + y4) (256 * y5 + y6) (pkJ zs j)
            have HD2 := Lib.hid HD.out
            rw [HK.out.1, HK.out.2.1, HK.out.2.2.1, HK.out.2.2.2.1, HK.out.2.2.2.2] at HD2
            have HU2 := Lib.hid HU.out
            rw [HK.out.1, HK.out.2.1, HK.out.2.2.1, HK.out.2.2.2.1, HK.out.2.2.2.2] at HU2
            have hlj := HJL.out j
            have TR4 := Lib.hid TR.out.2.2.2.2
            clear HU HD HK HL HN HI HJ HJ0 HJL KP FP BP TR
            generalize pkJ zs j = d at *
            have C4 := fun W => Lib.hid (c_l4Good y0 (256 * y1 + y2) (256 * y3 + y4) (256 * y5 + y6) d W (by omega))
            have C5 := fun W h => Lib.hid (c_l4Encode y0 (256 * y1 + y2) (256 * y3 + y4) (256 * y5 + y6) d W h)
            obtain ⟨pb, p0, p1, p2, p3, p4⟩ := KR.out
            have f4 := FR.out 4
            go_upto_region 19 with fail
            have T3 := Lib.hid (show Two0 w (wr.setCell ⟨wq.heap.size, 4, none⟩ (.string (str d))) from T2.out.set4 TR4.out _)
            have K3 := Lib.hid (KR.out.set4 d)
            clear T2 KR FR f4 hcv HR BR p0 p1 p2 p3 p4
            generalize wr.setCell ⟨wq.heap.size, 4, none⟩ (.string (str d)) = w5 at *
            obtain ⟨pb, p0, p1, p2, p3, p4⟩ := K3.out
            unfold pkC at C4 C5
            cases g : goodP y0 (256 * y1 + y2) (256 * y3 + y4) (256 * y5 + y6) d
            · have HD3 : Hid (decOk l = false) := Lib.hid (by
                rw [HD2.out]
                refine decide_eq_false fun e => ?_
                rw [show encR y0 (256 * y1 + y2) (256 * y3 + y4) (256 * y5 + y6) d = [] from by unfold encR; rw [g]; rfl] at e
                rw [← e] at g20
                simp at g20)
              rw [g] at C4
              clear HD2 C5 HE2 g
              go_wp2_with fail
              refine (C4 _).out.mono ?_
              rintro e w6 ⟨rfl, b6⟩
              have T6 := Lib.hid (T3.out.keep b6)
              clear b6 T3 K3 p0 p1 p2 p3 p4 C4
              have TB := Lib.hid T6.out.1
              have TZ := Lib.hid (And.intro T6.out.2.1 True.intro)
              obtain ⟨_, z0, z1, z2, z3, z4⟩ := T6.out.2.2.2.1
              obtain ⟨_, a0, a1, a2, a3, a4⟩ := T6.out.2.1
              have f0 := T6.out.2.2.1 0
              have f1 := T6.out.2.2.1 1
              have f2 := T6.out.2.2.1 2
              have f3 := T6.out.2.2.1 3
              have f4 := T6.out.2.2.1 4
              go_wp2_with fail
              have K9 : PkAt 0 0 0 0 [] w.heap.size (((((w6.setCell ⟨w.heap.size, 0, none⟩ (.int .i64 0)).setCell ⟨w.heap.size, 1, none⟩ (.int .i64 0)).setCell ⟨w.heap.size, 2, none⟩ (.int .i64 0)).setCell ⟨w.heap.size, 3, none⟩ (.int .i64 0)).setCell ⟨w.heap.size, 4, none⟩ (.string (str []))) := TZ.out.1.set5 0 0 0 0 []
              have B9 : Below w.heap.size w (((((w6.setCell ⟨w.heap.size, 0, none⟩ (.int .i64 0)).setCell ⟨w.heap.size, 1, none⟩ (.int .i64 0)).setCell ⟨w.heap.size, 2, none⟩ (.int .i64 0)).setCell ⟨w.heap.size, 3, none⟩ (.int .i64 0)).setCell ⟨w.heap.size, 4, none⟩ (.string (str []))) := set5 TB.out (Nat.le_refl _) _ _ _ _ _
              generalize (((((w6.setCell ⟨w.heap.size, 0, none⟩ (.int .i64 0)).setCell ⟨w.heap.size, 1, none⟩ (.int .i64 0)).setCell ⟨w.heap.size, 2, none⟩ (.int .i64 0)).setCell ⟨w.heap.size, 3, none⟩ (.int .i64 0)).setCell ⟨w.heap.size, 4, none⟩ (.string (str []))) = w9 at K9 B9 ⊢
              refine bodyPost_ret (res_deco (ok := false) rfl rfl K9) rfl ⟨?_, B9⟩
              rw [HD3.out, HU2.out, HD3.out]
              first | done | rfl
            · rw [show encR y0 (256 * y1 + y2) (256 * y3 + y4) (256 * y5 + y6) d = hexL (octL y0 (256 * y1 + y2) (256 * y3 + y4) (256 * y5 + y6) d) from by unfold encR; rw [g]; rfl] at HD2 HE2
              have C6 := fun W => C5 W g
              rw [g] at C4
              clear C5 g
              generalize hexL (octL y0 (256 * y1 + y2) (256 * y3 + y4) (256 * y5 + y6) d) = E at *
              go_wp2_with fail
              refine (C4 _).out.mono ?_
              rintro e w6 ⟨rfl, b6⟩
              have T6 := Lib.hid (T3.out.keep b6)
              have K6 := Lib.hid (K3.out.keep b6)
              clear b6 T3 K3 p0 p1 p2 p3 p4 C4
              obtain ⟨pb, p0, p1, p2, p3, p4⟩ := K6.out
              go_wp2_with fail
              refine (C6 _).out.mono ?_
              rintro e w7 ⟨rfl, b7⟩
              have T7 := Lib.hid (T6.out.keep b7)
              have K7 := Lib.hid (K6.out.keep b7)
              clear b7 T6 K6 p0 p1 p2 p3 p4 C6
              obtain ⟨pb, p0, p1, p2, p3, p4⟩ := K7.out
              have TB := Lib.hid T7.out.1
              have TZ := Lib.hid (And.intro T7.out.2.1 True.intro)
              obtain ⟨_, z0, z1, z2, z3, z4⟩ := T7.out.2.2.2.1
              obtain ⟨_, a0, a1, a2, a3, a4⟩ := T7.out.2.1
              have f0 := T7.out.2.2.1 0
              have f1 := T7.out.2.2.1 1
              have f2 := T7.out.2.2.1 2
              have f3 := T7.out.2.2.1 3
              have f4 := T7.out.2.2.1 4
              have t1 := str_tl E
              have t2 := str_tl l
              by_cases he : E = l
              · have hb : (E == l) = true := by rw [he]; exact beq_self_eq_true _
                have HD3 : Hid (decOk l = true) := Lib.hid (by rw [HD2.out]; exact decide_eq_true he)
                clear he
                go_wp2_with fail
                have K9 : PkAt y0 (256 * y1 + y2) (256 * y3 + y4) (256 * y5 + y6) d w.heap.size (((((w7.setCell ⟨w.heap.size, 0, none⟩ (.int .i64 y0)).setCell ⟨w.heap.size, 1, none⟩ (.int .i64 (256 * y1 + y2))).setCell ⟨w.heap.size, 2, none⟩ (.int .i64 (256 * y3 + y4))).setCell ⟨w.heap.size, 3, none⟩ (.int .i64 (256 * y5 + y6))).setCell ⟨w.heap.size, 4, none⟩ (.string (str d))) := TZ.out.1.set5 y0 (256 * y1 + y2) (256 * y3 + y4) (256 * y5 + y6) d
                have B9 : Below w.heap.size w (((((w7.setCell ⟨w.heap.size, 0, none⟩ (.int .i64 y0)).setCell ⟨w.heap.size, 1, none⟩ (.int .i64 (256 * y1 + y2))).setCell ⟨w.heap.size, 2, none⟩ (.int .i64 (256 * y3 + y4))).setCell ⟨w.heap.size, 3, none⟩ (.int .i64 (256 * y5 + y6))).setCell ⟨w.heap.size, 4, none⟩ (.string (str d))) := set5 TB.out (Nat.le_refl _) _ _ _ _ _
                generalize (((((w7.setCell ⟨w.heap.size, 0, none⟩ (.int .i64 y0)).setCell ⟨w.heap.size, 1, none⟩ (.int .i64 (256 * y1 + y2))).setCell ⟨w.heap.size, 2, none⟩ (.int .i64 (256 * y3 + y4))).setCell ⟨w.heap.size, 3, none⟩ (.int .i64 (256 * y5 + y6))).setCell ⟨w.heap.size, 4, none⟩ (.string (str d))) = w9 at K9 B9 ⊢
                refine bodyPost_ret (res_deco (ok := true) rfl rfl K9) rfl ⟨?_, B9⟩
                rw [HD3.out, HU2.out, HD3.out]
                first | done | rfl
              · have hb : (E == l) = false := beq_eq_false_iff_ne.2 he
                have HD3 : Hid (decOk l = false) := Lib.hid (by rw [HD2.out]; exact decide_eq_false he)
                clear he
                go_wp2_with fail
                have K9 : PkAt 0 0 0 0 [] w.heap.size (((((w7.setCell ⟨w.heap.size, 0, none⟩ (.int .i64 0)).setCell ⟨w.heap.size, 1, none⟩ (.int .i64 0)).setCell ⟨w.heap.size, 2, none⟩ (.int .i64 0)).setCell ⟨w.heap.size, 3, none⟩ (.int .i64 0)).setCell ⟨w.heap.size, 4, none⟩ (.string (str []))) := TZ.out.1.set5 0 0 0 0 []
                have B9 : Below w.heap.size w (((((w7.setCell ⟨w.heap.size, 0, none⟩ (.int .i64 0)).setCell ⟨w.heap.size, 1, none⟩ (.int .i64 0)).setCell ⟨w.heap.size, 2, none⟩ (.int .i64 0)).setCell ⟨w.heap.size, 3, none⟩ (.int .i64 0)).setCell ⟨w.heap.size, 4, none⟩ (.string (str []))) := set5 TB.out (Nat.le_refl _) _ _ _ _ _
                generalize (((((w7.setCell ⟨w.heap.size, 0, none⟩ (.int .i64 0)).setCell ⟨w.heap.size, 1, none⟩ (.int .i64 0)).setCell ⟨w.heap.size, 2, none⟩ (.int .i64 0)).setCell ⟨w.heap.size, 3, none⟩ (.int .i64 0)).setCell ⟨w.heap.size, 4, none⟩ (.string (str []))) = w9 at K9 B9 ⊢
                refine bodyPost_ret (res_deco (ok := false) rfl rfl K9) rfl ⟨?_, B9⟩
                rw [HD3.out, HU2.out, HD3.out]
                first | done | rfl
end Go.Proofs.YtnabiehbecojlaaDoor
