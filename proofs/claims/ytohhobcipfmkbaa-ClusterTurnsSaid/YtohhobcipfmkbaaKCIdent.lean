/- Texts of this claim, cut to what it needs. -/
import Derived.Test.YtohhobcipfmkbaaKUWhole
import Derived.Test.YtohhobcipfmkbaaKCTurnP
import Derived.Test.YtohhobcipfmkbaaKCFinA
namespace Go.Proofs.Ytohhobcipfmkbaa.CFin
open Go.RowKit Go.Proofs.YtohhobcipfmkbaaW.PrintWords Go.Proofs.YtohhobcipfmkbaaW.PrintMore Go.Proofs.YtohhobcipfmkbaaW.PrintLast Go.Proofs.Ytohhobcipfmkbaa.U Go.Proofs.Ytohhobcipfmkbaa.PClusterFinest Go.Proofs.Ytohhobcipfmkbaa.UFinest Go.Proofs.Ytohhobcipfmkbaa.UFinEv Go.Proofs.Ytohhobcipfmkbaa.UWhole
set_option linter.unusedVariables false
set_option linter.unusedSimpArgs false
theorem idS_snoc (i : Nat) : idS (i + 1) = idS i ++ [⟨⟨(i : Int), (i : Int) + 1⟩, ⟨(i : Int), (i : Int) + 1⟩⟩] := by
  unfold idS
  rw [List.range_succ, List.map_append]
  rfl
theorem ident_loop (N : Nat) (hN : N ≤ 1000000) (d : Nat) : ∀ i : Nat, i + d = N → Ev (fun k => cluster_Identity.l0 k (idS i) (N : Int) (i : Int)) (idS N) := by
  induction d with
  | zero =>
    intro i hd
    obtain rfl : i = N := by omega
    exact Ev.step (fun k => by rw [cluster_Identity.l0]) (ev_neg (by omega) (ev_now _))
  | succ d ih =>
    intro i hd
    refine Ev.step (fun k => by rw [cluster_Identity.l0]) (ev_pos (by omega) (ev_pos (by rw [idS_len]; omega) ?_))
    rw [w64 (by omega) (by omega), ← idS_snoc, show (i : Int) + 1 = ((i + 1 : Nat) : Int) by omega]
    exact ih (i + 1) (by omega)
theorem refIdent_loop (n : Int) (N : Nat) (hn : n = N ∨ n ≤ 0 ∧ N = 0) (hN : N ≤ 1000000) (d : Nat) : ∀ i : Nat, i + d = N → Ev (fun k => naskhref04_Identity.l0 k n (idS i) (i : Int)) (idS N) := by
  induction d with
  | zero =>
    intro i hd
    obtain rfl : i = N := by omega
    exact Ev.step (fun k => by rw [naskhref04_Identity.l0]) (ev_neg (by omega) (ev_now _))
  | succ d ih =>
    intro i hd
    refine Ev.step (fun k => by rw [naskhref04_Identity.l0]) (ev_pos (by omega) (ev_pos (by rw [idS_len]; omega) ?_))
    rw [w64 (by omega) (by omega), ← idS_snoc, show (i : Int) + 1 = ((i + 1 : Nat) : Int) by omega]
    exact ih (i + 1) (by omega)
theorem ident_c (n : Int) (hn : n ≤ 200) {w : World} : Calls Try.prog 36 #[.int .i64 n] w fun e w' => ∃ u, e = .returned u ∧ SLk k45 w' u (idS n.toNat) ∧ Below w.heap.size w w' := by
  have he : Ev (fun k => cluster_Identity.f k n) (idS n.toNat) := by
    have h := ident_loop n.toNat (by omega) n.toNat 0 (by omega)
    have e : mx n 0 = (n.toNat : Int) := by unfold mx; split <;> omega
    unfold cluster_Identity.f
    rw [e]
    exact h
  obtain ⟨k, hk⟩ := ev_some he
  refine (cluster_Identity.calls k n _ w hk).mono ?_
  rintro e w' ⟨v, rfl, hv, hb⟩
  exact ⟨v, rfl, SLk.of_R hv, hb⟩
theorem refIdent_c (n : Int) (hn : n ≤ 200) {w : World} : Calls Try.prog 37 #[.int .i64 n] w fun e w' => ∃ u, e = .returned u ∧ SLk k45 w' u (idS n.toNat) ∧ Below w.heap.size w w' := by
  have he : Ev (fun k => naskhref04_Identity.f k n) (idS n.toNat) := refIdent_loop n n.toNat (by omega) (by omega) n.toNat 0 (by omega)
  obtain ⟨k, hk⟩ := ev_some he
  refine (naskhref04_Identity.calls k n _ w hk).mono ?_
  rintro e w' ⟨v, rfl, hv, hb⟩
  exact ⟨v, rfl, SLk.of_R hv, hb⟩
end Go.Proofs.Ytohhobcipfmkbaa.CFin
