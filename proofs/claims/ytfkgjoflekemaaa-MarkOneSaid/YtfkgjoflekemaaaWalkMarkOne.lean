/- MarkOne answers true: the law's own function, walked over the contracts of mark and of the document's answer. -/
import Derived.Test.YtfkgjoflekemaaaCMark2
namespace Go.Proofs.Ytfkgjoflekemaaa
open Go.RowKit Go.Proofs.YtfkgjoflekemaaaW.PrintWords Go.Proofs.Ytfkgjoflekemaaa.U Go.Proofs.Ytfkgjoflekemaaa.UMark Go.Proofs.Ytfkgjoflekemaaa.CMark Go.Proofs.Ytfkgjoflekemaaa.CMark2 Go.Proofs.Ytfkgjoflekemaaa.CBase Go.Proofs.Ytfkgjoflekemaaa.CSlices
set_option linter.unusedVariables false
set_option linter.unusedSimpArgs false
set_option maxHeartbeats 1000000 in
theorem markOneWalk (c mode : Int) (over : Bool) (w : World) (_ : (Lit.int .i64 c).wf = true) (_ : (Lit.int .i64 mode).wf = true) :
    Calls Try.prog 10 #[.int .i64 c, .int .i64 mode, .bool over] w fun e w' => e = .returned (.bool true) ∧ Below w.heap.size w w' := by
  have hol : (oneL c mode over).length ≤ 1000000000000 := by
    unfold oneL
    repeat' split
    all_goals simp
  have hno : tash c = false → oneL c mode over = [c] := by
    intro h
    unfold oneL
    rw [h]
    simp
  have HOL := Aside0.mk hol
  have HNO := Aside0.mk hno
  have HT : ∀ wx, Calls Try.prog 38 #[.int .i64 c] wx fun e w' => e = .returned (.bool (tash c)) ∧ Below wx.heap.size wx w' := fun wx => tash_c c wx
  have HR : ∀ wx, Calls Try.prog 40 #[.int .i64 c] wx fun e w' => e = .returned (.bool (tash c)) ∧ Below wx.heap.size wx w' := fun wx => rtash_c c wx
  have HT := Aside0.mk HT
  have HR := Aside0.mk HR
  clear hol hno
  go_enter Try.func10, Try.ntmps10
  go_wp2_with fail
  refine (one_c _ _ _ _).mono ?_
  rintro e w1 ⟨u, rfl, hu, hb⟩
  have HU := Aside0.mk hu
  have HB := Aside0.mk hb
  clear hu hb
  go_wp2_with fail
  refine (HT.out _).mono ?_
  generalize tash c = t at HT HR HNO
  rintro e w2 ⟨rfl, hb⟩
  have HB2 := Aside0.mk (below_step HB.out hb)
  have HU2 := Aside0.mk (SLk.below HU.out hb)
  clear hb HU HB
  have fin : ∀ (wx : World) (K : Prop), K → K := fun _ _ h => h
  cases t
  · have HN := Aside0.mk (HNO.out rfl)
    clear HNO
    go_wp2_with fail
    refine (equal_c (xs := oneL c mode over) (ys := [c]) (SLk.alloc HU2.out _) (SL_lit w2 3 [c] (by simp)) HOL.out).mono ?_
    rw [HN.out, decide_eq_true rfl]
    rintro e w3 ⟨rfl, hb⟩
    have HB3 := Aside0.mk (below_step (below_alloc HB2.out _) hb)
    have HU3 := Aside0.mk (SLk.below (SLk.alloc HU2.out _) hb)
    clear hb HU2 HB2 fin
    go_wp2_with fail
    refine (rone_c _ _ _ _).mono ?_
    rintro e w4 ⟨u2, rfl, hu, hb⟩
    have HB4 := Aside0.mk (below_step HB3.out hb)
    have HU4 := Aside0.mk (SLk.below HU3.out hb)
    have HV4 := Aside0.mk hu
    clear hu hb HU3 HB3
    go_wp2_with fail
    refine (equal_c HU4.out HV4.out HOL.out).mono ?_
    rw [decide_eq_true rfl]
    rintro e w5 ⟨rfl, hb⟩
    have HB5 := Aside0.mk (below_step HB4.out hb)
    clear hb HB4
    go_wp2_with fail
    refine (HT.out _).mono ?_
    rintro e w6 ⟨rfl, hb⟩
    have HB6 := Aside0.mk (below_step HB5.out hb)
    clear hb HB5
    go_wp2_with fail
    refine (HR.out _).mono ?_
    rintro e w7 ⟨rfl, hb⟩
    have HB7 := Aside0.mk (below_step HB6.out hb)
    clear hb HB6
    go_wp2_with fail
    refine (awake_c _).mono ?_
    rintro e w8 ⟨rfl, hb⟩
    have HB8 := Aside0.mk (below_step HB7.out hb)
    clear hb HB7
    go_wp2
    go_ret
    exact ⟨rfl, HB8.out⟩
  · clear fin
    go_wp2_with fail
    refine (rone_c _ _ _ _).mono ?_
    rintro e w4 ⟨u2, rfl, hu, hb⟩
    have HB4 := Aside0.mk (below_step HB2.out hb)
    have HU4 := Aside0.mk (SLk.below HU2.out hb)
    have HV4 := Aside0.mk hu
    clear hu hb HU2 HB2
    go_wp2_with fail
    refine (equal_c HU4.out HV4.out HOL.out).mono ?_
    rw [decide_eq_true rfl]
    rintro e w5 ⟨rfl, hb⟩
    have HB5 := Aside0.mk (below_step HB4.out hb)
    clear hb HB4
    go_wp2_with fail
    refine (HT.out _).mono ?_
    rintro e w6 ⟨rfl, hb⟩
    have HB6 := Aside0.mk (below_step HB5.out hb)
    clear hb HB5
    go_wp2_with fail
    refine (HR.out _).mono ?_
    rintro e w7 ⟨rfl, hb⟩
    have HB7 := Aside0.mk (below_step HB6.out hb)
    clear hb HB6
    go_wp2_with fail
    refine (awake_c _).mono ?_
    rintro e w8 ⟨rfl, hb⟩
    have HB8 := Aside0.mk (below_step HB7.out hb)
    clear hb HB7
    go_wp2
    go_ret
    exact ⟨rfl, HB8.out⟩
end Go.Proofs.Ytfkgjoflekemaaa
