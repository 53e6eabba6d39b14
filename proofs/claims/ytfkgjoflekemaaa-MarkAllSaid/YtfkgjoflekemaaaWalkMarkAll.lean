/- MarkAll answers true: the law's own function, walked over the contracts of mark and of the document's answers. -/
import Derived.Test.YtfkgjoflekemaaaCAll
namespace Go.Proofs.Ytfkgjoflekemaaa
open Go.RowKit Go.Proofs.YtfkgjoflekemaaaW.PrintWords Go.Proofs.Ytfkgjoflekemaaa.U Go.Proofs.Ytfkgjoflekemaaa.UJoin Go.Proofs.Ytfkgjoflekemaaa.UMark Go.Proofs.Ytfkgjoflekemaaa.CMark Go.Proofs.Ytfkgjoflekemaaa.CMark2 Go.Proofs.Ytfkgjoflekemaaa.CBase Go.Proofs.Ytfkgjoflekemaaa.CSlices Go.Proofs.Ytfkgjoflekemaaa.CJoins Go.Proofs.Ytfkgjoflekemaaa.CJoin3 Go.Proofs.Ytfkgjoflekemaaa.CCut
set_option linter.unusedVariables false
set_option linter.unusedSimpArgs false
theorem allAt_le (text types : List Int) (mode : Int) (use : Bool) (i : Nat) : (allAt text types mode use i).length ≤ 1 := by
  unfold allAt oneL
  repeat' split
  all_goals simp
theorem allL_le (text types : List Int) (mode : Int) (pl : Bool) (i : Nat) : ((allL text types mode pl).getD i []).length ≤ 1000000 := by
  unfold allL
  split
  · rw [List.getD_eq_getElem?_getD, List.getElem?_map]
    cases h : (List.range text.length)[i]? with
    | none => simp
    | some x => simp only [Option.map_some, Option.getD_some]; exact Nat.le_trans (allAt_le _ _ _ _ _) (by omega)
  · simp
theorem allL_len (text types : List Int) (mode : Int) (pl : Bool) : (allL text types mode pl).length ≤ text.length := by
  unfold allL
  split <;> simp
theorem pilesL_len (text : List Int) : (pilesL text).length ≤ text.length := by
  unfold pilesL
  rw [List.length_map]
  unfold pilesN
  exact Nat.le_trans (List.length_filter_le _ _) (by simp)
set_option maxRecDepth 100000 in
set_option maxHeartbeats 2000000 in
theorem markAllWalk (text types : List Int) (mode : Int) (pl : Bool) (w : World) (A0 : Option Addr) (c0 : Nat) (hr0 : Kd.C (Kd.int .i64) w A0 text.length text) (hc0 : text.length ≤ c0) (hm0 : text.length ≤ maxLen) (_ : text.length * 8 ≤ 140737488351232) (_ : ∀ x ∈ text, (Lit.int .i64 x).wf = true) (A1 : Option Addr) (c1 : Nat) (hr1 : Kd.C (Kd.int .i64) w A1 types.length types) (hc1 : types.length ≤ c1) (hm1 : types.length ≤ maxLen) (_ : types.length * 8 ≤ 140737488351232) (_ : ∀ x ∈ types, (Lit.int .i64 x).wf = true) (_ : (Lit.int .i64 mode).wf = true) :
    Calls Try.prog 13 #[.slice A0 text.length c0, .slice A1 types.length c1, .int .i64 mode, .bool pl] w fun e w' => e = .returned (.bool true) ∧ Below w.heap.size w w' := by
  have H := Aside0.mk (SLk.mk hr0 hc0)
  have H1 := Aside0.mk (SLk.mk hr1 hc1)
  clear hr0 hc0 hr1 hc1
  by_cases g : 200 < text.length
  · have g1 : decide (200 < (text.length : Int)) = true := decide_eq_true (by omega)
    have g2 : decide (200 < text.length) = true := decide_eq_true g
    clear g
    go_enter Try.func13, Try.ntmps13
    go_wp2_with fail
    refine (awake_c _).mono ?_
    rintro e w1 ⟨rfl, hb⟩
    go_wp2
    go_ret
    exact ⟨rfl, hb⟩
  · have g1 : decide (200 < (text.length : Int)) = false := decide_eq_false (by omega)
    have g2 : decide (200 < text.length) = false := decide_eq_false g
    have hm : text.length ≤ 200 := by omega
    clear g
    by_cases g : 200 < types.length
    · have g3 : decide (200 < (types.length : Int)) = true := decide_eq_true (by omega)
      have g4 : decide (200 < types.length) = true := decide_eq_true g
      clear g
      go_enter Try.func13, Try.ntmps13
      go_wp2_with fail
      refine (awake_c _).mono ?_
      rintro e w1 ⟨rfl, hb⟩
      go_wp2
      go_ret
      exact ⟨rfl, hb⟩
    have g3 : decide (200 < (types.length : Int)) = false := decide_eq_false (by omega)
    have g4 : decide (200 < types.length) = false := decide_eq_false g
    have htm : types.length ≤ 200 := by omega
    have HM := Aside0.mk hm
    have HTM := Aside0.mk htm
    clear g hm htm
    go_enter Try.func13, Try.ntmps13
    go_wp2_with fail
    refine (joins_c H.out (by have := HM.out; omega)).mono ?_
    rintro e w1 ⟨ty, rfl, hty, hb⟩
    have HOM := Aside0.mk (show (text.map jn).length ≤ 1000000 by have := HM.out; simp; omega)
    generalize text.map jn = own at hty HOM
    have HOW := Aside0.mk hty
    have HB := Aside0.mk hb
    clear hty hb
    go_wp2_with fail
    refine (all_c (SLk.below H.out HB.out) (SLk.below H1.out HB.out) mode pl (by have := HM.out; omega) (by have := HTM.out; omega)).mono ?_
    rintro e w2 ⟨u, rfl, hu, hb⟩
    have HU := Aside0.mk (hu.reads 3)
    have HB2 := Aside0.mk (below_step HB.out hb)
    have HOW2 := Aside0.mk (SLk.below HOW.out hb)
    clear hu hb HB HOW
    go_wp2_with fail
    refine (CAll.rall_c (SLk.below H.out HB2.out) (SLk.below H1.out HB2.out) mode pl (by have := HM.out; omega) (by have := HTM.out; omega)).mono ?_
    rintro e w3 ⟨u3, rfl, hu, hb⟩
    have HV := Aside0.mk (SLk.of_R hu)
    have HU3 := Aside0.mk (SLk.below HU.out hb)
    have HB3 := Aside0.mk (below_step HB2.out hb)
    have HOW3 := Aside0.mk (SLk.below HOW2.out hb)
    clear hu hb HB2 HOW2 HU
    go_wp2_with fail
    refine (CAll.equals_c HU3.out HV.out (by have := allL_len text types mode pl; have := HM.out; omega) (fun i => allL_le text types mode pl i)).mono ?_
    rintro e w4 ⟨rfl, hb⟩
    have HB4 := Aside0.mk (below_step HB3.out hb)
    have HOW4 := Aside0.mk (SLk.below HOW3.out hb)
    clear hb HB3 HOW3 HU3 HV
    go_wp2_with fail
    refine (all_c (SLk.below H.out HB4.out) HOW4.out mode pl (by have := HM.out; omega) HOM.out).mono ?_
    rintro e w2 ⟨u, rfl, hu, hb⟩
    have HU := Aside0.mk (hu.reads 3)
    have HB2 := Aside0.mk (below_step HB4.out hb)
    have HOW2 := Aside0.mk (SLk.below HOW4.out hb)
    clear hu hb HB4 HOW4
    go_wp2_with fail
    refine (CAll.rall_c (SLk.below H.out HB2.out) HOW2.out mode pl (by have := HM.out; omega) HOM.out).mono ?_
    rintro e w3 ⟨u3, rfl, hu, hb⟩
    have HV := Aside0.mk (SLk.of_R hu)
    have HU3 := Aside0.mk (SLk.below HU.out hb)
    have HB3 := Aside0.mk (below_step HB2.out hb)
    clear hu hb HB2 HOW2 HU
    go_wp2_with fail
    refine (CAll.equals_c HU3.out HV.out (by have := allL_len text own mode pl; have := HM.out; omega) (fun i => allL_le text own mode pl i)).mono ?_
    rintro e w4 ⟨rfl, hb⟩
    have HB4 := Aside0.mk (below_step HB3.out hb)
    clear hb HB3 HU3 HV
    go_wp2_with fail
    refine (piles_c (SLk.below H.out HB4.out) (by have := HM.out; omega)).mono ?_
    rintro e w5 ⟨u5, rfl, hu, hb⟩
    have HU := Aside0.mk hu
    have HB5 := Aside0.mk (below_step HB4.out hb)
    clear hu hb HB4
    go_wp2_with fail
    refine (CAll.rpiles_c (SLk.below H.out HB5.out) (by have := HM.out; omega)).mono ?_
    rintro e w6 ⟨u6, rfl, hu, hb⟩
    have HV := Aside0.mk hu
    have HU2 := Aside0.mk (SLk.below HU.out hb)
    have HB6 := Aside0.mk (below_step HB5.out hb)
    clear hu hb HB5 HU
    go_wp2_with fail
    refine (equal_c HU2.out HV.out (by have := pilesL_len text; have := HM.out; omega)).mono ?_
    rw [decide_eq_true rfl]
    rintro e w7 ⟨rfl, hb⟩
    have HB7 := Aside0.mk (below_step HB6.out hb)
    clear hb HB6 HU2 HV
    go_wp2_with fail
    refine (awake_c _).mono ?_
    rintro e w8 ⟨rfl, hb⟩
    have HB8 := Aside0.mk (below_step HB7.out hb)
    clear hb HB7
    go_wp2
    go_ret
    exact ⟨rfl, HB8.out⟩
end Go.Proofs.Ytfkgjoflekemaaa
