/- The fifth step of the weak types. -/
import Derived.Test.YtfkgjoflekemaaaCWeak2
namespace Go.Proofs.Ytfkgjoflekemaaa.CWeak
open Go.RowKit Go.Proofs.YtfkgjoflekemaaaW.PrintWords Go.Proofs.YtfkgjoflekemaaaW.PrintMore Go.Proofs.YtfkgjoflekemaaaW.PrintLast Go.Proofs.Ytfkgjoflekemaaa.U Go.Proofs.Ytfkgjoflekemaaa.CBase Go.Proofs.Ytfkgjoflekemaaa.CInsert
set_option linter.unusedVariables false
set_option linter.unusedSimpArgs false
/-- what stands ahead of k, and behind, where the signs that end numbers are passed over -/
def bk (l : List Int) : Nat → Int
  | 0 => -1
  | k + 1 => if rd l k = 5 then bk l k else rd l k
def fw (l : List Int) : Nat → Nat → Int
  | _, 0 => -1
  | k, n + 1 => if rd l k = 5 then fw l (k + 1) n else rd l k
def num5 (l : List Int) (i : Nat) : Bool := decide (bk l i = 3) || decide (fw l i (l.length - i) = 3)
def v5 (l : List Int) (i : Nat) : Int := if rd l i = 5 ∧ num5 l i = true then 3 else rd l i
def w5To (l : List Int) (k : Nat) : List Int := (List.range l.length).map fun i => if i < k then v5 l i else rd l (i : Int)
def w5L (l : List Int) : List Int := (List.range l.length).map (v5 l)
theorem w5To_zero (l : List Int) : w5To l 0 = l := by
  unfold w5To
  apply List.ext_getElem
  · simp
  · intro i h1 h2
    simp only [List.getElem_map, List.getElem_range]
    rw [if_neg (by omega), rd_get h2]
theorem w5To_length (l : List Int) (k : Nat) : (w5To l k).length = l.length := by simp [w5To]
theorem w5To_end (l : List Int) : w5To l l.length = w5L l := by
  unfold w5To w5L
  apply List.map_congr_left
  intro i hi
  rw [if_pos (List.mem_range.1 hi)]
theorem w5To_succ (l : List Int) (k : Nat) (hk : k < l.length) : (w5To l k).set k (v5 l k) = w5To l (k + 1) := by
  apply List.ext_getElem
  · simp [w5To]
  · intro i h1 h2
    rw [List.getElem_set]
    by_cases e : k = i
    · subst e; simp [w5To]
    · rw [if_neg e]
      simp only [w5To, List.getElem_map, List.getElem_range]
      by_cases h : i < k
      · rw [if_pos h, if_pos (by omega)]
      · rw [if_neg h, if_neg (by omega)]
theorem w5To_same (l : List Int) (a b : Nat) (hab : a ≤ b) (h : ∀ i, a ≤ i → i < b → i < l.length → v5 l i = rd l (i : Int)) : w5To l a = w5To l b := by
  unfold w5To
  apply List.map_congr_left
  intro i hi
  have hl := List.mem_range.1 hi
  by_cases h1 : i < a
  · rw [if_pos h1, if_pos (by omega)]
  · by_cases h2 : i < b
    · rw [if_neg h1, if_pos h2, h i (by omega) h2 hl]
    · rw [if_neg h1, if_neg h2]
theorem bk_run (l : List Int) (lo : Nat) (m : Nat) (h : ∀ j : Nat, lo ≤ j → j < lo + m → rd l (j : Int) = 5) : bk l (lo + m) = bk l lo := by
  induction m with
  | zero => rfl
  | succ m ih =>
    rw [← Nat.add_assoc, bk, if_pos (h (lo + m) (by omega) (by omega))]
    exact ih (fun j h1 h2 => h j h1 (by omega))
theorem fw_run (l : List Int) (m : Nat) : ∀ lo r, (∀ j : Nat, lo ≤ j → j < lo + m → rd l (j : Int) = 5) → fw l lo (m + r) = fw l (lo + m) r := by
  induction m with
  | zero => intro lo r _; rw [Nat.zero_add]; rfl
  | succ m ih =>
    intro lo r h
    rw [show m + 1 + r = (m + r) + 1 by omega, fw, if_pos (h lo (Nat.le_refl _) (by omega)), ih (lo + 1) r (fun j h1 h2 => h j (by omega) (by omega)), show lo + 1 + m = lo + (m + 1) by omega]
/-- in a run from lo to hi all have the same beside them -/
theorem num_run (l : List Int) (lo hi : Nat) (h : ∀ j : Nat, lo ≤ j → j < hi → rd l (j : Int) = 5) (hl : hi ≤ l.length) (i : Nat) (h1 : lo ≤ i) (h2 : i ≤ hi) : num5 l i = (decide (bk l lo = 3) || decide (fw l hi (l.length - hi) = 3)) := by
  unfold num5
  have e1 := bk_run l lo (i - lo) (fun j a b => h j a (by omega))
  rw [show lo + (i - lo) = i by omega] at e1
  have e2 := fw_run l (hi - i) i (l.length - hi) (fun j a b => h j (by omega) (by omega))
  rw [show hi - i + (l.length - hi) = l.length - i by omega, show i + (hi - i) = hi by omega] at e2
  rw [e1, e2]
theorem fw_here (l : List Int) (hi : Nat) (h : hi < l.length) (h5 : rd l (hi : Int) ≠ 5) : fw l hi (l.length - hi) = rd l (hi : Int) := by
  rw [show l.length - hi = (l.length - hi - 1) + 1 by omega, fw, if_neg h5]
theorem bk_here (l : List Int) (lo : Nat) (h5 : rd l (lo : Int) ≠ 5) : bk l (lo + 1) = rd l (lo : Int) := by rw [bk, if_neg h5]
set_option maxRecDepth 100000 in
set_option maxHeartbeats 2000000 in
theorem w5_c {v : Value} {l : List Int} {w : World} (h : SL w v l) (hm : l.length ≤ 1000000) : Calls Try.prog 78 #[v] w fun e w' => ∃ u, e = .returned u ∧ SL w' u (w5L l) ∧ Below w.heap.size w w' := by
  have H := Aside0.mk h
  obtain ⟨A, c, rfl, _, _⟩ := h
  go_enter Try.func78, Try.ntmps78
  go_wp2_with fail
  refine (clone_c H.out hm).mono ?_
  rintro e w1 ⟨u, rfl, hu, hb⟩
  have HB := Aside0.mk hb
  clear hb
  by_cases h0 : 0 < l.length
  · obtain ⟨g, cap, ev, hg, hcap⟩ := CSlices.R_form' hu h0
    subst ev
    have hR : Aside0 (Kd.R (Kd.int .i64) 3 w1 w.heap.size (fun _ => True) (.slice (some ⟨g, 0, none⟩) l.length cap) (w5To l 0)) := ⟨by rw [w5To_zero]; exact hu⟩
    have HG := Aside0.mk hg
    clear hu hg hcap
    go_wp2_with fail
    go_loopw [4] (fun v wr => ∃ k : Nat, v = .int .i64 k ∧ k ≤ l.length ∧ Aside0 (rd l (k : Int) = 5 → k < l.length → ∀ j : Nat, k = j + 1 → rd l (j : Int) ≠ 5) ∧ Aside0 (Kd.R (Kd.int .i64) 3 wr w.heap.size (fun _ => True) (.slice (some ⟨g, 0, none⟩) l.length cap) (w5To l k)) ∧ Aside0 (Below w.heap.size w wr)) (fun v _ => l.length - (intOf v).toNat)
    case atStart => exact ⟨0, rfl, Nat.zero_le _, ⟨fun _ _ j h => by omega⟩, hR, HB⟩
    case round =>
      clear hR HB
      obtain ⟨k, rfl, hk, HI, hR, HB⟩ := hrel
      by_cases hlt : k < l.length
      · go_wp2_with fail
        go_loopw [5] (fun v wx => ∃ h : Nat, v = .int .i64 h ∧ k ≤ h ∧ h ≤ l.length ∧ Aside0 (∀ j : Nat, k ≤ j → j < h → rd l (j : Int) = 5) ∧ wx = wr) (fun v _ => l.length - (intOf v).toNat)
        case atStart => exact ⟨k, rfl, Nat.le_refl _, by omega, ⟨fun j h1 h2 => by omega⟩, rfl⟩
        case round =>
          obtain ⟨h, rfl, hkh, hhl, HRUN, rfl⟩ := hrel
          by_cases h1 : h < l.length
          · obtain ⟨ad, c1, ea, hct⟩ := SLk.at_int (SLk.below H.out HB.out) (h : Int) (by omega) (by omega)
            injection ea with e1 e2 e3
            subst e1
            simp only [Int.toNat_natCast] at hct
            have h2 : (h : Int) < (l.length : Int) := by omega
            clear e2 e3
            by_cases h5 : rd l (h : Int) = 5
            · have h5' : (rd l (h : Int) == 5) = true := by simpa using h5
              have HN : Aside0 (∀ j : Nat, k ≤ j → j < h + 1 → rd l (j : Int) = 5) := ⟨fun j a b => by
                by_cases e : j = h
                · subst e; exact h5
                · exact HRUN.out j a (by omega)⟩
              clear h5
              go_wp2_with fail
              exact ⟨⟨h + 1, by go_num, by omega, by omega, HN, trivial⟩, by simp [intOf]; omega⟩
            · have h5' : (rd l (h : Int) == 5) = false := by simpa using h5
              have H5 := Aside0.mk h5
              clear h5
              by_cases e : h = k
              · subst e
                have HX : Aside0 (rd l ((h + 1 : Nat) : Int) = 5 → h + 1 < l.length → ∀ j : Nat, h + 1 = j + 1 → rd l (j : Int) ≠ 5) := ⟨fun _ _ j hj => by
                  obtain rfl : h = j := by omega
                  exact H5.out⟩
                have HR2 : Aside0 (Kd.R (Kd.int .i64) 3 wr (w.heap.size) (fun _ => True) (.slice (some ⟨g, 0, none⟩) l.length cap) (w5To l (h + 1))) := ⟨by
                  rw [← w5To_same l h (h + 1) (by omega) (fun i a1 a2 _ => by
                    obtain rfl : i = h := by omega
                    unfold v5
                    rw [if_neg (fun hh => H5.out hh.1)])]
                  exact hR.out⟩
                go_wp2_with fail
                exact ⟨⟨h + 1, by go_num, by omega, HX, HR2, HB⟩, by simp [intOf]; omega⟩
              · have e1 : ((h : Int) == (k : Int)) = false := by simp; omega
                have HE : Aside0 (h < l.length → rd l (h : Int) ≠ 5) := ⟨fun _ => H5.out⟩
                have hkh2 : k < h := by omega
                go_upto_region 9 with (fail)
                go_cut [6] (fun v6 wx => ∃ b, v6 = .bool b ∧ Aside0 (b = num5 l k) ∧ Aside0 (wr = wx))
                case first =>
                  have HN0 := Aside0.mk (num_run l k h HRUN.out hhl k (Nat.le_refl _) hkh)
                  have hkI : (k : Int) < (l.length : Int) := by omega
                  by_cases hk0 : k = 0
                  · have p0 : decide ((0 : Int) < (k : Int)) = false := decide_eq_false (by omega)
                    have p1 : decide (0 < k) = false := decide_eq_false (by omega)
                    have p2 : ¬ ((0 : Int) < (k : Int)) := by omega
                    have HBK : Aside0 (decide (bk l k = 3) = false) := ⟨by subst hk0; rfl⟩
                    clear hk0
                    by_cases hQ : rd l (h : Int) = 3
                    · have hQ' : (rd l (h : Int) == 3) = true := by simpa using hQ
                      have HR : Aside0 (true = num5 l k) := ⟨by rw [HN0.out, HBK.out, fw_here l h h1 H5.out, decide_eq_true hQ, Bool.or_true]⟩
                      clear hQ
                      go_wp2_with fail
                      go_meet
                      case rel => exact ⟨true, rfl, HR, ⟨rfl⟩⟩
                    · have hQ' : (rd l (h : Int) == 3) = false := by simpa using hQ
                      have HR : Aside0 (false = num5 l k) := ⟨by rw [HN0.out, HBK.out, fw_here l h h1 H5.out, decide_eq_false hQ]; rfl⟩
                      clear hQ
                      go_wp2_with fail
                      go_meet
                      case rel => exact ⟨false, rfl, HR, ⟨rfl⟩⟩
                  · have p0 : decide ((0 : Int) < (k : Int)) = true := decide_eq_true (by omega)
                    have p1 : decide (0 < k) = true := decide_eq_true (by omega)
                    have p2 : (0 : Int) < (k : Int) := by omega
                    have p3 : (k : Int) - 1 < (l.length : Int) := by omega
                    have p4 : 0 ≤ (k : Int) - 1 := by omega
                    obtain ⟨ad2, c2, ea2, hcp⟩ := SLk.at_int (SLk.below H.out HB.out) ((k : Int) - 1) (by omega) (by omega)
                    injection ea2 with e1 e2 e3
                    cases e1
                    rw [show ((k : Int) - 1).toNat = k - 1 by omega] at hcp
                    have HBK0 : Aside0 (bk l k = rd l ((k : Int) - 1)) := ⟨by
                      obtain ⟨j, rfl⟩ : ∃ j, k = j + 1 := ⟨k - 1, by omega⟩
                      have := HI.out (HRUN.out (j + 1) (Nat.le_refl _) (by omega)) (by omega) j rfl
                      rw [bk_here l j this]
                      congr 1
                      omega⟩
                    clear e2 e3 hk0
                    generalize rd l ((k : Int) - 1) = P at hcp HBK0
                    by_cases hP : P = 3
                    · have hP' : (P == 3) = true := by simpa using hP
                      have HR : Aside0 (true = num5 l k) := ⟨by rw [HN0.out, HBK0.out, decide_eq_true hP, Bool.true_or]⟩
                      clear hP
                      go_wp2_with fail
                      go_meet
                      case rel => exact ⟨true, rfl, HR, ⟨rfl⟩⟩
                    · have hP' : (P == 3) = false := by simpa using hP
                      have HBK : Aside0 (decide (bk l k = 3) = false) := ⟨by rw [HBK0.out]; exact decide_eq_false hP⟩
                      clear hP
                      by_cases hQ : rd l (h : Int) = 3
                      · have hQ' : (rd l (h : Int) == 3) = true := by simpa using hQ
                        have HR : Aside0 (true = num5 l k) := ⟨by rw [HN0.out, HBK.out, fw_here l h h1 H5.out, decide_eq_true hQ, Bool.or_true]⟩
                        clear hQ
                        go_wp2_with fail
                        go_meet
                        case rel => exact ⟨true, rfl, HR, ⟨rfl⟩⟩
                      · have hQ' : (rd l (h : Int) == 3) = false := by simpa using hQ
                        have HR : Aside0 (false = num5 l k) := ⟨by rw [HN0.out, HBK.out, fw_here l h h1 H5.out, decide_eq_false hQ]; rfl⟩
                        clear hQ
                        go_wp2_with fail
                        go_meet
                        case rel => exact ⟨false, rfl, HR, ⟨rfl⟩⟩
                case rest =>
                  obtain ⟨b, rfl, HNB, HW⟩ := hcut
                  have hw := HW.out
                  subst hw
                  clear HW
                  have HV : Aside0 (∀ i : Nat, k ≤ i → i < h → v5 l i = if b = true then 3 else rd l (i : Int)) := ⟨fun i a1 a2 => by
                    have e5 := HRUN.out i a1 a2
                    have en := (num_run l k h HRUN.out hhl i a1 (by omega)).trans (num_run l k h HRUN.out hhl k (Nat.le_refl _) hkh).symm
                    unfold v5
                    rw [en, ← HNB.out]
                    cases b
                    · rw [if_neg (fun hh => Bool.false_ne_true hh.2), if_neg Bool.false_ne_true]
                    · rw [if_pos ⟨e5, rfl⟩, if_pos rfl]⟩
                  have HX : Aside0 (rd l (h : Int) = 5 → h < l.length → ∀ j : Nat, h = j + 1 → rd l (j : Int) ≠ 5) := ⟨fun a1 a2 => absurd a1 (HE.out a2)⟩
                  cases b
                  · have HR2 : Aside0 (Kd.R (Kd.int .i64) 3 wr (w.heap.size) (fun _ => True) (.slice (some ⟨g, 0, none⟩) l.length cap) (w5To l h)) := ⟨by
                      rw [← w5To_same l k h hkh (fun i a1 a2 _ => by have := HV.out i a1 a2; rwa [if_neg Bool.false_ne_true] at this)]
                      exact hR.out⟩
                    go_wp2_with fail
                    go_loopw [7] (fun v wx => v = .int .i64 k ∧ wx = wr) (fun v _ => 0)
                    case atStart => exact ⟨rfl, rfl⟩
                    case round =>
                      obtain ⟨rfl, rfl⟩ := hrel
                      go_wp2_with fail
                      refine ⟨⟨h, by go_num, hhl, HX, HR2, HB⟩, by simp [intOf]; omega⟩
                  · have HRk := hR
                    have HBk := HB
                    go_wp2_with fail
                    go_loopw [7] (fun v wx => ∃ i : Nat, v = .int .i64 i ∧ k ≤ i ∧ i ≤ h ∧ Aside0 (Kd.R (Kd.int .i64) 3 wx w.heap.size (fun _ => True) (.slice (some ⟨g, 0, none⟩) l.length cap) (w5To l i)) ∧ Aside0 (Below w.heap.size w wx)) (fun v _ => h - (intOf v).toNat)
                    case atStart => exact ⟨k, rfl, Nat.le_refl _, hkh, HRk, HBk⟩
                    case round =>
                      obtain ⟨i, rfl, hki, hih, hRi, HBi⟩ := hrel
                      by_cases hlt2 : i < h
                      · have hi1 : (i : Int) < (h : Int) := by omega
                        have hi2 : (i : Int) < (l.length : Int) := by omega
                        obtain ⟨y, z⟩ := Kd.R_celln (0 : Int) hRi.out (i : Int) (by omega) (by omega)
                        have hp := (Kd.R_putg hRi.out (i : Int) 3).1
                        rw [Int.toNat_natCast] at y z hp
                        have hv : v5 l i = 3 := by simpa using HV.out i hki hlt2
                        have hs := w5To_succ l i (by omega)
                        rw [hv] at hs
                        rw [hs] at hp
                        have HP := Aside0.mk hp
                        have HB2 := Aside0.mk (below_cells HBi.out HG.out i [.int .i64 3])
                        clear hp hv hs
                        go_wp2_with fail
                        exact ⟨⟨i + 1, by go_num, by omega, by omega, HP, HB2⟩, by simp [intOf]; omega⟩
                      · have hi1 : ¬ ((i : Int) < (h : Int)) := by omega
                        obtain rfl : i = h := by omega
                        go_wp2_with fail
                        refine ⟨⟨i, by go_num, hhl, HX, hRi, HBi⟩, by simp [intOf]; omega⟩
          · have h2 : ¬ ((h : Int) < (l.length : Int)) := by omega
            have e1 : ((h : Int) == (k : Int)) = false := by simp; omega
            have HE : Aside0 (h < l.length → rd l (h : Int) ≠ 5) := ⟨fun hh => absurd hh h1⟩
            have hkh2 : k < h := by omega
            go_upto_region 9 with (fail)
            go_cut [6] (fun v6 wx => ∃ b, v6 = .bool b ∧ Aside0 (b = num5 l k) ∧ Aside0 (wr = wx))
            case first =>
              obtain ⟨ad, c1, ea, _⟩ := SLk.at_int (SLk.below H.out HB.out) (k : Int) (by omega) (by omega)
              injection ea with e1 e2 e3
              subst e1
              clear e2 e3
              have HN0 := Aside0.mk (num_run l k h HRUN.out hhl k (Nat.le_refl _) hkh)
              have hkI : (k : Int) < (l.length : Int) := by omega
              by_cases hk0 : k = 0
              · have p0 : decide ((0 : Int) < (k : Int)) = false := decide_eq_false (by omega)
                have p1 : decide (0 < k) = false := decide_eq_false (by omega)
                have p2 : ¬ ((0 : Int) < (k : Int)) := by omega
                have HBK : Aside0 (decide (bk l k = 3) = false) := ⟨by subst hk0; rfl⟩
                clear hk0
                have HR : Aside0 (false = num5 l k) := ⟨by rw [HN0.out, HBK.out, show l.length - h = 0 by omega]; rfl⟩
                go_wp2_with fail
                go_meet
                case rel => exact ⟨false, rfl, HR, ⟨rfl⟩⟩
              · have p0 : decide ((0 : Int) < (k : Int)) = true := decide_eq_true (by omega)
                have p1 : decide (0 < k) = true := decide_eq_true (by omega)
                have p2 : (0 : Int) < (k : Int) := by omega
                have p3 : (k : Int) - 1 < (l.length : Int) := by omega
                have p4 : 0 ≤ (k : Int) - 1 := by omega
                obtain ⟨ad2, c2, ea2, hcp⟩ := SLk.at_int (SLk.below H.out HB.out) ((k : Int) - 1) (by omega) (by omega)
                injection ea2 with e1 e2 e3
                cases e1
                rw [show ((k : Int) - 1).toNat = k - 1 by omega] at hcp
                have HBK0 : Aside0 (bk l k = rd l ((k : Int) - 1)) := ⟨by
                  obtain ⟨j, rfl⟩ : ∃ j, k = j + 1 := ⟨k - 1, by omega⟩
                  have := HI.out (HRUN.out (j + 1) (Nat.le_refl _) (by omega)) (by omega) j rfl
                  rw [bk_here l j this]
                  congr 1
                  omega⟩
                clear e2 e3 hk0
                generalize rd l ((k : Int) - 1) = P at hcp HBK0
                by_cases hP : P = 3
                · have hP' : (P == 3) = true := by simpa using hP
                  have HR : Aside0 (true = num5 l k) := ⟨by rw [HN0.out, HBK0.out, decide_eq_true hP, Bool.true_or]⟩
                  clear hP
                  go_wp2_with fail
                  go_meet
                  case rel => exact ⟨true, rfl, HR, ⟨rfl⟩⟩
                · have hP' : (P == 3) = false := by simpa using hP
                  have HBK : Aside0 (decide (bk l k = 3) = false) := ⟨by rw [HBK0.out]; exact decide_eq_false hP⟩
                  clear hP
                  have HR : Aside0 (false = num5 l k) := ⟨by rw [HN0.out, HBK.out, show l.length - h = 0 by omega]; rfl⟩
                  go_wp2_with fail
                  go_meet
                  case rel => exact ⟨false, rfl, HR, ⟨rfl⟩⟩
            case rest =>
              obtain ⟨b, rfl, HNB, HW⟩ := hcut
              have hw := HW.out
              subst hw
              clear HW
              have HV : Aside0 (∀ i : Nat, k ≤ i → i < h → v5 l i = if b = true then 3 else rd l (i : Int)) := ⟨fun i a1 a2 => by
                have e5 := HRUN.out i a1 a2
                have en := (num_run l k h HRUN.out hhl i a1 (by omega)).trans (num_run l k h HRUN.out hhl k (Nat.le_refl _) hkh).symm
                unfold v5
                rw [en, ← HNB.out]
                cases b
                · rw [if_neg (fun hh => Bool.false_ne_true hh.2), if_neg Bool.false_ne_true]
                · rw [if_pos ⟨e5, rfl⟩, if_pos rfl]⟩
              have HX : Aside0 (rd l (h : Int) = 5 → h < l.length → ∀ j : Nat, h = j + 1 → rd l (j : Int) ≠ 5) := ⟨fun a1 a2 => absurd a1 (HE.out a2)⟩
              cases b
              · have HR2 : Aside0 (Kd.R (Kd.int .i64) 3 wr (w.heap.size) (fun _ => True) (.slice (some ⟨g, 0, none⟩) l.length cap) (w5To l h)) := ⟨by
                  rw [← w5To_same l k h hkh (fun i a1 a2 _ => by have := HV.out i a1 a2; rwa [if_neg Bool.false_ne_true] at this)]
                  exact hR.out⟩
                go_wp2_with fail
                go_loopw [7] (fun v wx => v = .int .i64 k ∧ wx = wr) (fun v _ => 0)
                case atStart => exact ⟨rfl, rfl⟩
                case round =>
                  obtain ⟨rfl, rfl⟩ := hrel
                  go_wp2_with fail
                  refine ⟨⟨h, by go_num, hhl, HX, HR2, HB⟩, by simp [intOf]; omega⟩
              · have HRk := hR
                have HBk := HB
                go_wp2_with fail
                go_loopw [7] (fun v wx => ∃ i : Nat, v = .int .i64 i ∧ k ≤ i ∧ i ≤ h ∧ Aside0 (Kd.R (Kd.int .i64) 3 wx w.heap.size (fun _ => True) (.slice (some ⟨g, 0, none⟩) l.length cap) (w5To l i)) ∧ Aside0 (Below w.heap.size w wx)) (fun v _ => h - (intOf v).toNat)
                case atStart => exact ⟨k, rfl, Nat.le_refl _, hkh, HRk, HBk⟩
                case round =>
                  obtain ⟨i, rfl, hki, hih, hRi, HBi⟩ := hrel
                  by_cases hlt2 : i < h
                  · have hi1 : (i : Int) < (h : Int) := by omega
                    have hi2 : (i : Int) < (l.length : Int) := by omega
                    obtain ⟨y, z⟩ := Kd.R_celln (0 : Int) hRi.out (i : Int) (by omega) (by omega)
                    have hp := (Kd.R_putg hRi.out (i : Int) 3).1
                    rw [Int.toNat_natCast] at y z hp
                    have hv : v5 l i = 3 := by simpa using HV.out i hki hlt2
                    have hs := w5To_succ l i (by omega)
                    rw [hv] at hs
                    rw [hs] at hp
                    have HP := Aside0.mk hp
                    have HB2 := Aside0.mk (below_cells HBi.out HG.out i [.int .i64 3])
                    clear hp hv hs
                    go_wp2_with fail
                    exact ⟨⟨i + 1, by go_num, by omega, by omega, HP, HB2⟩, by simp [intOf]; omega⟩
                  · have hi1 : ¬ ((i : Int) < (h : Int)) := by omega
                    obtain rfl : i = h := by omega
                    go_wp2_with fail
                    refine ⟨⟨i, by go_num, hhl, HX, hRi, HBi⟩, by simp [intOf]; omega⟩
      · go_wp2_with fail
        go_ret
        obtain rfl : k = l.length := by omega
        have hr := hR.out
        rw [w5To_end] at hr
        exact ⟨_, rfl, SLk.of_R hr, HB.out⟩
  · have e : l = [] := List.eq_nil_of_length_eq_zero (by omega)
    subst e
    have HU := Aside0.mk (SLk.of_R hu)
    obtain ⟨U, cu, eu⟩ := Kd.R_slice hu
    subst eu
    clear hu
    go_wp2_with fail
    go_loopw [4] (fun v wr => v = .int .i64 0 ∧ wr = w1) (fun v _ => 0)
    case atStart => exact ⟨rfl, rfl⟩
    case round =>
      obtain ⟨rfl, rfl⟩ := hrel
      go_wp2_with fail
      go_ret
      exact ⟨_, rfl, HU.out, HB.out⟩
end Go.Proofs.Ytfkgjoflekemaaa.CWeak
