/- Contracts of join's functions, and of the document's, over a slice that reads as a list. -/
import Derived.Test.YtfkgjoflekemaaaPureJoin
import Derived.Test.YtfkgjoflekemaaaCJoin2
namespace Go.Proofs.Ytfkgjoflekemaaa.CJoin3
open Go.RowKit Go.Proofs.Ytfkgjoflekemaaa.PJoinForms Go.Proofs.YtfkgjoflekemaaaW.PrintWords Go.Proofs.YtfkgjoflekemaaaW.PrintMore Go.Proofs.Ytfkgjoflekemaaa.U Go.Proofs.Ytfkgjoflekemaaa.CJoin Go.Proofs.Ytfkgjoflekemaaa.CJoin2 Go.Proofs.Ytfkgjoflekemaaa.CBase Go.Proofs.Ytfkgjoflekemaaa.UJoin Go.Proofs.Ytfkgjoflekemaaa.PureJoin
set_option linter.unusedVariables false
set_option linter.unusedSimpArgs false
section
variable {v : Value} {xs : List Int} {w : World} (h : SL w v xs) (hm : xs.length ≤ 1000000) (i : Int)
include h hm
theorem ahead_c : Calls Try.prog 26 #[v, .int .i64 i] w fun e w' => e = .returned (.int .i64 (aheadI xs i)) ∧ Below w.heap.size w w' := by
  obtain ⟨A, c, rfl, hc, h⟩ := h
  obtain ⟨k, hk⟩ := (ahead_ev xs hm i).rounds
  exact (join_Ahead.calls k A c xs i _ w h hc hk).mono fun e w' h => ⟨h.1, h.2.below⟩
theorem behind_c : Calls Try.prog 28 #[v, .int .i64 i] w fun e w' => e = .returned (.int .i64 (behindI xs i)) ∧ Below w.heap.size w w' := by
  obtain ⟨A, c, rfl, hc, h⟩ := h
  obtain ⟨k, hk⟩ := (behind_ev xs hm i).rounds
  exact (join_Behind.calls k A c xs i _ w h hc hk).mono fun e w' h => ⟨h.1, h.2.below⟩
theorem joined_c : Calls Try.prog 30 #[v, .int .i64 i] w fun e w' => e = .returned (.bool (joinedI xs i)) ∧ Below w.heap.size w w' := by
  obtain ⟨A, c, rfl, hc, h⟩ := h
  obtain ⟨k, hk⟩ := (joined_ev xs hm i).rounds
  exact (join_Joined.calls k A c xs i _ w h hc hk).mono fun e w' h => ⟨h.1, h.2.below⟩
theorem over_c : Calls Try.prog 32 #[v, .int .i64 i] w fun e w' => e = .returned (.bool (overI xs i)) ∧ Below w.heap.size w w' := by
  obtain ⟨A, c, rfl, hc, h⟩ := h
  obtain ⟨k, hk⟩ := (over_ev xs hm i).rounds
  exact (join_Over.calls k A c xs i _ w h hc hk).mono fun e w' h => ⟨h.1, h.2.below⟩
theorem rahead_c : Calls Try.prog 27 #[v, .int .i64 i] w fun e w' => e = .returned (.int .i64 (aheadI xs i)) ∧ Below w.heap.size w w' := by
  obtain ⟨A, c, rfl, hc, h⟩ := h
  obtain ⟨k, hk⟩ := (rahead_ev xs hm i).rounds
  exact (naskhref13_Ahead.calls k A c xs i _ w h hc hk).mono fun e w' h => ⟨h.1, h.2.below⟩
theorem rbehind_c : Calls Try.prog 29 #[v, .int .i64 i] w fun e w' => e = .returned (.int .i64 (behindI xs i)) ∧ Below w.heap.size w w' := by
  obtain ⟨A, c, rfl, hc, h⟩ := h
  obtain ⟨k, hk⟩ := (rbehind_ev xs hm i).rounds
  exact (naskhref13_Behind.calls k A c xs i _ w h hc hk).mono fun e w' h => ⟨h.1, h.2.below⟩
theorem rjoined_c : Calls Try.prog 31 #[v, .int .i64 i] w fun e w' => e = .returned (.bool (joinedI xs i)) ∧ Below w.heap.size w w' := by
  obtain ⟨A, c, rfl, hc, h⟩ := h
  obtain ⟨k, hk⟩ := (rjoined_ev xs hm i).rounds
  exact (naskhref13_Joined.calls k A c xs i _ w h hc hk).mono fun e w' h => ⟨h.1, h.2.below⟩
omit i in
theorem rforms_c : Calls Try.prog 25 #[v] w fun e w' => ∃ u, e = .returned u ∧ SL w' u (formsOf xs) ∧ Below w.heap.size w w' := by
  obtain ⟨A, c, rfl, hc, h⟩ := h
  obtain ⟨k, hk⟩ := (rforms_ev xs hm).rounds
  exact (naskhref13_Forms.calls k A c xs _ w h hc hk).mono fun e w' ⟨u, he, hr, hb⟩ => ⟨u, he, SLk.of_R hr, hb⟩
end
set_option maxHeartbeats 1000000 in
theorem rover_c {v : Value} {xs : List Int} {w : World} (h : SL w v xs) (hm : xs.length ≤ 1000000) (i : Int) : Calls Try.prog 33 #[v, .int .i64 i] w fun e w' => e = .returned (.bool (overI xs i)) ∧ Below w.heap.size w w' := by
  have H := Aside0.mk h
  by_cases h1 : 0 ≤ i ∧ i < xs.length
  · obtain ⟨h0, h1⟩ := h1
    obtain ⟨ad, c, rfl, hx⟩ := SLk.at_int h i h0 h1
    clear h
    by_cases h2 : rd xs i = 1
    · have h2' : (rd xs i == 1) = true := by simpa using h2
      have HO : Aside0 (overI xs i = joinedI xs (aheadI xs i)) := ⟨by unfold overI; rw [decide_eq_true ⟨h0, h1⟩, decide_eq_true h2]; simp⟩
      clear h2
      go_enter Try.func33, Try.ntmps33
      go_wp2_with fail
      refine (rahead_c H.out hm i).mono ?_
      rintro e w1 ⟨rfl, hb⟩
      have HB := Aside0.mk hb
      clear hb
      go_wp2_with fail
      refine (rjoined_c (SLk.below H.out HB.out) hm _).mono ?_
      rintro e w2 ⟨rfl, hb⟩
      rw [← HO.out]
      have HB2 := Aside0.mk (below_step HB.out hb)
      clear hb
      go_wp2
      go_ret
      exact ⟨rfl, HB2.out⟩
    · have h2' : (rd xs i == 1) = false := by simpa using h2
      have HO : Aside0 (overI xs i = false) := ⟨by unfold overI; rw [decide_eq_false h2]; simp⟩
      clear h2
      go_enter Try.func33, Try.ntmps33
      go_wp2
      go_ret
      exact ⟨by rw [HO.out]; rfl, Below.refl _ _⟩
  · have HO : Aside0 (overI xs i = false) := ⟨by unfold overI; rw [decide_eq_false h1]; simp⟩
    obtain ⟨A, c, rfl, hc, _⟩ := h
    by_cases h0 : 0 ≤ i
    · have h2 : decide (i < (xs.length : Int)) = false := decide_eq_false (by omega)
      clear h1
      go_enter Try.func33, Try.ntmps33
      go_wp2
      go_ret
      exact ⟨by rw [HO.out]; rfl, Below.refl _ _⟩
    · have h2 : decide (0 ≤ i) = false := decide_eq_false h0
      clear h1
      go_enter Try.func33, Try.ntmps33
      go_wp2
      go_ret
      exact ⟨by rw [HO.out]; rfl, Below.refl _ _⟩
end Go.Proofs.Ytfkgjoflekemaaa.CJoin3
