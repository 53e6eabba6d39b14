/- naskhref04.Finest: walked. -/
import Derived.Test.YtohhobcipfmkbaaCFinP
import Derived.Test.YtohhobcipfmkbaaUFinDoc
import Derived.Laws.CopyOwn
namespace Go.Proofs.Ytohhobcipfmkbaa.CFin
open Go.RowKit Go.Proofs.YtohhobcipfmkbaaW.PrintWords Go.Proofs.YtohhobcipfmkbaaW.PrintMore Go.Proofs.YtohhobcipfmkbaaW.PrintLast Go.Proofs.Ytohhobcipfmkbaa.U Go.Proofs.Ytohhobcipfmkbaa.PClusterFinest Go.Proofs.Ytohhobcipfmkbaa.UFinest Go.Proofs.Ytohhobcipfmkbaa.UFinEv
set_option linter.unusedVariables false
set_option linter.unusedSimpArgs false
theorem ev_some {α : Type} {f : Nat → Option α} {r : α} (h : Ev f r) : ∃ k, f k = some r := by
  obtain ⟨k, h⟩ := h
  exact ⟨k, h k (Nat.le_refl _)⟩
theorem wrong_c (n m : Int) {w : World} {v : Value} {l : List S45} (h : SLk k45 w v l) (hl : l.length ≤ 1000000) : Calls Try.prog 64 #[.int .i64 n, .int .i64 m, v] w fun e w' => e = .returned (.int .i64 (wrongR n m l)) ∧ Below w.heap.size w w' := by
  obtain ⟨A, c, rfl, hc, hC⟩ := h
  obtain ⟨k, hk⟩ := ev_some (wrong_ev n m l hl)
  exact naskhref04_wrong.calls k n m A c l _ w hC hc hk
set_option maxRecDepth 100000 in
set_option maxHeartbeats 1000000 in
theorem refFinest_bad (n m : Int) {w : World} {v : Value} {l : List S45} (h : SLk k45 w v l) (hl : l.length ≤ 1000000) (hb : wrongR n m l ≠ 0 ∨ n = 0) :
    Calls Try.prog 33 #[.int .i64 n, .int .i64 m, v] w fun e w' => e = .returned (.tuple #[.slice none 0 0, .int .i64 (wrongR n m l)]) ∧ Below w.heap.size w w' := by
  have H := Aside0.mk h
  obtain ⟨A, c, rfl, _, _⟩ := h
  obtain ⟨r, hr⟩ : ∃ r, r = wrongR n m l := ⟨_, rfl⟩
  rw [← hr] at hb ⊢
  have HR := Aside0.mk hr
  clear hr
  go_enter Try.func33, Try.ntmps33
  by_cases h0 : r = 0
  · subst h0
    obtain rfl : n = 0 := by rcases hb with h | h; exact absurd rfl h; exact h
    clear hb
    go_wp2_with (go_at_call 64; refine (wrong_c 0 m H.out hl).mono ?_; rintro e w1 ⟨rfl, hb1⟩; rw [← HR.out]; have HB1 := Aside0.mk hb1; clear hb1)
    refine bodyPost_ret (results_tmp2 rfl _ _ _) rfl ?_
    exact ⟨rfl, HB1.out⟩
  · clear hb
    go_wp2_with (go_at_call 64; refine (wrong_c n m H.out hl).mono ?_; rintro e w1 ⟨rfl, hb1⟩; rw [← HR.out]; have HB1 := Aside0.mk hb1; clear hb1)
    refine bodyPost_ret (results_tmp2 rfl _ _ _) rfl ?_
    exact ⟨rfl, HB1.out⟩
end Go.Proofs.Ytohhobcipfmkbaa.CFin
