/- JoinPlaces answers true: the law's own function, walked over the contracts of join and of the document's answer. -/
import Derived.Test.YtfkgjoflekemaaaCJoin3
namespace Go.Proofs.Ytfkgjoflekemaaa
open Go.RowKit Go.Proofs.YtfkgjoflekemaaaW.PrintWords Go.Proofs.Ytfkgjoflekemaaa.U Go.Proofs.Ytfkgjoflekemaaa.CJoin2 Go.Proofs.Ytfkgjoflekemaaa.CJoin3 Go.Proofs.Ytfkgjoflekemaaa.CBase Go.Proofs.Ytfkgjoflekemaaa.UJoin
set_option linter.unusedVariables false
set_option maxHeartbeats 1000000 in
theorem joinPlacesWalk (l0 : List Int) (i : Int) (w : World) (A0 : Option Addr) (c0 : Nat) (hr0 : Kd.C (Kd.int .i64) w A0 l0.length l0) (hc0 : l0.length ≤ c0) (hm0 : l0.length ≤ maxLen) (_ : l0.length * 8 ≤ 140737488351232) (_ : ∀ x ∈ l0, (Lit.int .i64 x).wf = true) (_ : (Lit.int .i64 i).wf = true) :
    Calls Try.prog 6 #[.slice A0 l0.length c0, .int .i64 i] w fun e w' => e = .returned (.bool true) ∧ Below w.heap.size w w' := by
  unfold maxLen at hm0
  have H := Aside0.mk (SLk.mk hr0 hc0)
  clear hr0 hc0
  by_cases g : 500 < l0.length
  · have g1 : decide (500 < (l0.length : Int)) = true := decide_eq_true (by omega)
    have g2 : decide (500 < l0.length) = true := decide_eq_true g
    clear g
    go_enter Try.func6, Try.ntmps6
    go_wp2_with fail
    refine (awake_c _).mono ?_
    rintro e w1 ⟨rfl, hb⟩
    go_wp2
    go_ret
    exact ⟨rfl, hb⟩
  · have g1 : decide (500 < (l0.length : Int)) = false := decide_eq_false (by omega)
    have g2 : decide (500 < l0.length) = false := decide_eq_false g
    have HM : Aside0 (l0.length ≤ 1000000) := ⟨by omega⟩
    clear g
    generalize hea : aheadI l0 i = ea
    generalize heb : behindI l0 i = eb
    generalize hej : joinedI l0 i = ej
    generalize heo : overI l0 i = eo
    have EA := Aside0.mk hea
    have EB := Aside0.mk heb
    have EJ := Aside0.mk hej
    have EO := Aside0.mk heo
    clear hea heb hej heo
    have HB := Aside0.mk (Below.refl w.heap.size w)
    go_enter Try.func6, Try.ntmps6
    go_wp2_with fail
    refine (ahead_c (SLk.below H.out HB.out) HM.out i).mono ?_
    rw [EA.out]
    rintro e w1 ⟨rfl, hb⟩
    have HB2 := Aside0.mk (below_step HB.out hb)
    clear HB hb
    have HB := HB2
    clear HB2
    go_wp2_with fail
    refine (rahead_c (SLk.below H.out HB.out) HM.out i).mono ?_
    rw [EA.out]
    rintro e w1 ⟨rfl, hb⟩
    have HB2 := Aside0.mk (below_step HB.out hb)
    clear HB hb
    have HB := HB2
    clear HB2
    go_wp2_with fail
    refine (behind_c (SLk.below H.out HB.out) HM.out i).mono ?_
    rw [EB.out]
    rintro e w1 ⟨rfl, hb⟩
    have HB2 := Aside0.mk (below_step HB.out hb)
    clear HB hb
    have HB := HB2
    clear HB2
    go_wp2_with fail
    refine (rbehind_c (SLk.below H.out HB.out) HM.out i).mono ?_
    rw [EB.out]
    rintro e w1 ⟨rfl, hb⟩
    have HB2 := Aside0.mk (below_step HB.out hb)
    clear HB hb
    have HB := HB2
    clear HB2
    go_wp2_with fail
    refine (joined_c (SLk.below H.out HB.out) HM.out i).mono ?_
    rw [EJ.out]
    rintro e w1 ⟨rfl, hb⟩
    have HB2 := Aside0.mk (below_step HB.out hb)
    clear HB hb
    have HB := HB2
    clear HB2
    go_wp2_with fail
    refine (rjoined_c (SLk.below H.out HB.out) HM.out i).mono ?_
    rw [EJ.out]
    rintro e w1 ⟨rfl, hb⟩
    have HB2 := Aside0.mk (below_step HB.out hb)
    clear HB hb
    have HB := HB2
    clear HB2
    go_wp2_with fail
    refine (over_c (SLk.below H.out HB.out) HM.out i).mono ?_
    rw [EO.out]
    rintro e w1 ⟨rfl, hb⟩
    have HB2 := Aside0.mk (below_step HB.out hb)
    clear HB hb
    have HB := HB2
    clear HB2
    go_wp2_with fail
    refine (rover_c (SLk.below H.out HB.out) HM.out i).mono ?_
    rw [EO.out]
    rintro e w1 ⟨rfl, hb⟩
    have HB2 := Aside0.mk (below_step HB.out hb)
    clear HB hb
    have HB := HB2
    clear HB2
    go_wp2_with fail
    refine (awake_c _).mono ?_
    rintro e w4 ⟨rfl, hb⟩
    have HB4 := Aside0.mk (below_step HB.out hb)
    clear hb HB
    go_wp2
    go_ret
    exact ⟨rfl, HB4.out⟩
end Go.Proofs.Ytfkgjoflekemaaa
