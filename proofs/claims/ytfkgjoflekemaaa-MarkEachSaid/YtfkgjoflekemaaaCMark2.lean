/- Contracts of mark's other functions, of the document's, and awake. -/
import Derived.Test.YtfkgjoflekemaaaCMark
import Derived.Test.YtfkgjoflekemaaaCSlices
namespace Go.Proofs.Ytfkgjoflekemaaa.CMark2
open Go.RowKit Go.Proofs.Ytfkgjoflekemaaa.PMarkOne Go.Proofs.YtfkgjoflekemaaaW.PrintWords Go.Proofs.YtfkgjoflekemaaaW.PrintMore Go.Proofs.Ytfkgjoflekemaaa.U Go.Proofs.Ytfkgjoflekemaaa.UJoin Go.Proofs.Ytfkgjoflekemaaa.UMark Go.Proofs.Ytfkgjoflekemaaa.PureMark Go.Proofs.Ytfkgjoflekemaaa.CMark Go.Proofs.Ytfkgjoflekemaaa.CBase Go.Proofs.Ytfkgjoflekemaaa.CSlices
set_option linter.unusedVariables false
set_option linter.unusedSimpArgs false
theorem tash_c (c : Int) (w : World) : Calls Try.prog 38 #[.int .i64 c] w fun e w' => e = .returned (.bool (tash c)) ∧ Below w.heap.size w w' :=
  (mark_Tashkeel.calls c _ w (tash_eq c)).mono fun e w' h => ⟨h.1, h.2.below⟩
theorem rtash_c (c : Int) (w : World) : Calls Try.prog 40 #[.int .i64 c] w fun e w' => e = .returned (.bool (tash c)) ∧ Below w.heap.size w w' :=
  (naskhref15_Tashkeel.calls c _ w (rtash_eq c)).mono fun e w' h => ⟨h.1, h.2.below⟩
theorem rone_c (c mode : Int) (over : Bool) (w : World) : Calls Try.prog 39 #[.int .i64 c, .int .i64 mode, .bool over] w fun e w' => ∃ u, e = .returned u ∧ SL w' u (oneL c mode over) ∧ Below w.heap.size w w' := by
  obtain ⟨k, hk⟩ := (rone_ev c mode over).rounds
  exact (naskhref15_One.calls k c mode over _ w hk).mono fun e w' ⟨u, he, hr, hb⟩ => ⟨u, he, SLk.of_R hr, hb⟩
set_option maxRecDepth 100000 in
set_option maxHeartbeats 1000000 in
theorem awake_c (w : World) : Calls Try.prog 41 #[] w fun e w' => e = .returned (.bool true) ∧ Below w.heap.size w w' := by
  have z0 := SLk.alloc (SL_lit w 3 [1617, 1614] (by decide)) (.cells #[.int .i64 1, .int .i64 1] 3)
  have z1 := SL_lit (w.alloc (.cells #[.int .i64 1617, .int .i64 1614] 3)) 3 [1, 1] (by decide)
  simp only [World.size_alloc] at z1
  have Z0 := Aside0.mk z0
  have Z1 := Aside0.mk z1
  clear z0 z1
  go_enter Try.func41, Try.ntmps41
  go_wp2_with fail
  refine (all_c Z0.out Z1.out 0 true (by decide) (by decide)).mono ?_
  rw [show allL [1617, 1614] [1, 1] 0 true = [[64608], []] by decide +kernel]
  rintro e w1 ⟨u, rfl, hu, hb⟩
  have hs := hu.reads 3
  obtain ⟨ad, c0, rfl, A0, c0', hc0, hl0⟩ := SLs.at_ hs 0 (by decide)
  obtain ⟨ad', c1, e', A1, c1', hc1, hl1⟩ := SLs.at_ hs 1 (by decide)
  injection e' with e1
  injection e1 with e1
  subst e1
  have HB := Aside0.mk (below_step (below_alloc (below_alloc (Below.refl _ _) _) _) hb)
  have HL := Aside0.mk hl0
  clear hs hu hb hl0 hl1
  simp only [Addr.add_zero', Addr.add_succ'] at hc0 hc1
  go_wp2_with fail
  refine (equal_c (xs := [64608]) (ys := [64608]) (SLk.alloc HL.out _) (SL_lit w1 3 [64608] (by decide)) (by decide)).mono ?_
  rw [decide_eq_true rfl]
  rintro e w2 ⟨rfl, hb⟩
  have hc2 := pw_cell_below (below_step (below_alloc (Below.refl _ _) _) hb) hc1
  have HB2 := Aside0.mk (below_step (below_alloc HB.out _) hb)
  clear hb hc0 hc1 HB
  go_wp2_with fail
  refine (tash_c _ _).mono ?_
  rintro e w3 ⟨rfl, hb⟩
  have HB3 := Aside0.mk (below_step HB2.out hb)
  clear hb
  go_wp2
  go_ret
  exact ⟨rfl, HB3.out⟩
end Go.Proofs.Ytfkgjoflekemaaa.CMark2
