/- JoinForms answers true: the law's own function, walked over the contracts of join and of the document's answer. -/
import Derived.Test.YtfkgjoflekemaaaCJoin3
namespace Go.Proofs.Ytfkgjoflekemaaa
open Go.RowKit Go.Proofs.YtfkgjoflekemaaaW.PrintWords Go.Proofs.Ytfkgjoflekemaaa.U Go.Proofs.Ytfkgjoflekemaaa.CJoin2 Go.Proofs.Ytfkgjoflekemaaa.CJoin3 Go.Proofs.Ytfkgjoflekemaaa.CBase Go.Proofs.Ytfkgjoflekemaaa.UJoin
set_option linter.unusedVariables false
set_option maxHeartbeats 1000000 in
theorem joinFormsWalk (l0 : List Int) (w : World) (A0 : Option Addr) (c0 : Nat) (hr0 : Kd.C (Kd.int .i64) w A0 l0.length l0) (hc0 : l0.length ≤ c0) (hm0 : l0.length ≤ maxLen) (_ : l0.length * 8 ≤ 140737488351232) (_ : ∀ x ∈ l0, (Lit.int .i64 x).wf = true) :
    Calls Try.prog 5 #[.slice A0 l0.length c0] w fun e w' => e = .returned (.bool true) ∧ Below w.heap.size w w' := by
  unfold maxLen at hm0
  have H := Aside0.mk (SLk.mk hr0 hc0)
  clear hr0 hc0
  by_cases g : 200 < l0.length
  · have g1 : decide (200 < (l0.length : Int)) = true := decide_eq_true (by omega)
    have g2 : decide (200 < l0.length) = true := decide_eq_true g
    clear g
    go_enter Try.func5, Try.ntmps5
    go_wp2_with fail
    refine (awake_c _).mono ?_
    rintro e w1 ⟨rfl, hb⟩
    go_wp2
    go_ret
    exact ⟨rfl, hb⟩
  · have g1 : decide (200 < (l0.length : Int)) = false := decide_eq_false (by omega)
    have g2 : decide (200 < l0.length) = false := decide_eq_false g
    go_enter Try.func5, Try.ntmps5
    go_wp2_with fail
    refine (forms_c _ l0 _ H.out (by omega)).mono ?_
    rintro e w1 ⟨u, rfl, hu, hb⟩
    have HU := Aside0.mk hu
    have HB := Aside0.mk hb
    clear hu hb
    go_wp2_with fail
    refine (rforms_c (SLk.below H.out HB.out) (by omega)).mono ?_
    rintro e w2 ⟨u2, rfl, hu2, hb⟩
    have HU1 := Aside0.mk (SLk.below HU.out hb)
    have HU2 := Aside0.mk hu2
    have HB2 := Aside0.mk (below_step HB.out hb)
    clear hu2 hb HU HB
    go_wp2_with fail
    refine (equal_c HU1.out HU2.out (by rw [formsOf_length]; omega)).mono ?_
    rw [decide_eq_true rfl]
    rintro e w3 ⟨rfl, hb⟩
    have HB3 := Aside0.mk (below_step HB2.out hb)
    clear hb HB2
    go_wp2_with fail
    refine (awake_c _).mono ?_
    rintro e w4 ⟨rfl, hb⟩
    have HB4 := Aside0.mk (below_step HB3.out hb)
    clear hb HB3
    go_wp2
    go_ret
    exact ⟨rfl, HB4.out⟩
end Go.Proofs.Ytfkgjoflekemaaa
