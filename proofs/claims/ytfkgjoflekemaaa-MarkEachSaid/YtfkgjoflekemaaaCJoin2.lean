/- join's awake, and join.Forms over a slice that reads as a list. -/
import Derived.Test.YtfkgjoflekemaaaCJoin
import Derived.Test.YtfkgjoflekemaaaCBase
namespace Go.Proofs.Ytfkgjoflekemaaa.CJoin2
open Go.RowKit Go.Proofs.Ytfkgjoflekemaaa.PJoinForms Go.Proofs.YtfkgjoflekemaaaW.PrintWords Go.Proofs.YtfkgjoflekemaaaW.PrintLast Go.Proofs.YtfkgjoflekemaaaW.PrintMore Go.Proofs.Ytfkgjoflekemaaa.U Go.Proofs.Ytfkgjoflekemaaa.CJoin Go.Proofs.Ytfkgjoflekemaaa.CBase Go.Proofs.Ytfkgjoflekemaaa.UJoin
set_option linter.unusedVariables false
set_option linter.unusedSimpArgs false
theorem forms_c (v : Value) (types : List Int) (w : World) (h : SL w v types) (hm : types.length ≤ 1000000) : Calls Try.prog 24 #[v] w fun e w' => ∃ u, e = .returned u ∧ SL w' u (formsOf types) ∧ Below w.heap.size w w' := by
  obtain ⟨A, c, rfl, hc, h⟩ := h
  exact (forms_any A c types w hm h).mono fun e w' ⟨u, he, hr, hb⟩ => ⟨u, he, SLk.of_R hr, hb⟩
set_option maxRecDepth 100000 in
set_option maxHeartbeats 1000000 in
theorem awake_c (w : World) : Calls Try.prog 23 #[] w fun e w' => e = .returned (.bool true) ∧ Below w.heap.size w w' := by
  go_enter Try.func23, Try.ntmps23
  go_wp2_with fail
  refine (forms_c _ [3, 1, 2] _ (SL_lit w 3 [3, 1, 2] (by decide)) (by decide)).mono ?_
  rintro e w1 ⟨u, rfl, hu, hb⟩
  have HB : Aside0 (Below w.heap.size w w1) := ⟨below_step (below_alloc (Below.refl _ _) _) hb⟩
  have HU := Aside0.mk hu
  clear hu hb
  go_wp2_with fail
  refine (equal_c (xs := formsOf [3, 1, 2]) (ys := [3, 0, 2]) (SLk.below HU.out (below_alloc (Below.refl _ _) _)) (SL_lit w1 3 [3, 0, 2] (by decide)) (by decide)).mono ?_
  rw [show decide (formsOf [3, 1, 2] = [3, 0, 2]) = true by decide +kernel]
  rintro e w2 ⟨rfl, hb⟩
  have HB2 : Aside0 (Below w.heap.size w w2) := ⟨below_step (below_alloc HB.out _) hb⟩
  clear hb HU HB
  go_wp2_with fail
  refine (join_Over.calls 20 _ _ [3, 1, 2] 1 true _ ?_ (by decide) (by decide +kernel)).mono ?_
  · obtain ⟨A, c, e, _, h⟩ := SL_lit w2 3 [3, 1, 2] (by decide)
    injection e with e1 e2 e3
    rw [e1]
    exact h
  rintro e w3 ⟨rfl, hb⟩
  have HB3 : Aside0 (Below w.heap.size w w3) := ⟨below_step (below_alloc HB2.out _) hb.below⟩
  clear hb HB2
  go_wp2
  go_ret
  exact ⟨rfl, HB3.out⟩
end Go.Proofs.Ytfkgjoflekemaaa.CJoin2
