/- The first place in a link: slices.Index over Bools. -/
import Derived.Test.YtohhobcipfmkbaaCFin6
namespace Go.Proofs.Ytohhobcipfmkbaa.CFin
open Go.RowKit Go.Proofs.YtohhobcipfmkbaaW.PrintWords Go.Proofs.YtohhobcipfmkbaaW.PrintMore Go.Proofs.YtohhobcipfmkbaaW.PrintLast Go.Proofs.Ytohhobcipfmkbaa.U Go.Proofs.Ytohhobcipfmkbaa.PClusterFinest Go.Proofs.Ytohhobcipfmkbaa.UFinest Go.Proofs.Ytohhobcipfmkbaa.UFinEv
set_option linter.unusedVariables false
set_option linter.unusedSimpArgs false
theorem index_loop (P : Nat → Bool) (b : List Bool) (hb : RepB P b) (hl : b.length ≤ 1000000) (d : Nat) : ∀ i : Nat, i + d = b.length → (∀ j, j < i → P j = false) → (List.range b.length).findIdx P < b.length →
    Ev (fun k => slices_Index_bool_bool.l0 k b true (b.length : Int) (i : Int)) (((List.range b.length).findIdx P : Nat) : Int) := by
  induction d with
  | zero =>
    intro i hd hf hlt
    exfalso
    have h := List.findIdx_getElem (xs := List.range b.length) (p := P) (w := by simpa using hlt)
    rw [List.getElem_range] at h
    rw [hf _ (by omega)] at h
    cases h
  | succ d ih =>
    intro i hd hf hfl
    have hlt : i < b.length := by omega
    refine Ev.step (fun k => by rw [slices_Index_bool_bool.l0]) (ev_pos (by omega) (ev_pos (by omega) (ev_pos (by omega) ?_)))
    rw [rdB, hb i hlt]
    by_cases hp : P i = true
    · have hfi : (List.range b.length).findIdx P = i := by
        rw [List.findIdx_eq (by simpa using hlt)]
        refine ⟨by simpa using hp, fun j hj => ?_⟩
        simp [hf j hj]
      rw [hfi]
      exact ev_pos (by rw [hp]; rfl) (ev_now _)
    · have hpf : P i = false := by simpa using hp
      refine ev_neg (by rw [hpf]; decide) ?_
      rw [w64 (by omega) (by omega), show (i : Int) + 1 = ((i + 1 : Nat) : Int) by omega]
      exact ih (i + 1) (by omega) (fun j hj => by
        by_cases hji : j = i
        · subst hji; exact hpf
        · exact hf j (by omega)) hfl
theorem index_c (n : Nat) {w : World} {base g cap : Nat} {L : List Lk} {b : List Bool} (h : LB w base g n cap b) (hl : b.length = n) (hn : n ≤ 1000000) (hb : RepB (linkedB L) b) (hf : firstF L n < n) :
    Calls Try.prog 85 #[.slice (some ⟨g, 0, none⟩) n cap, .bool true] w fun e w' => e = .returned (.int .i64 (firstF L n : Nat)) ∧ Drawn0 w w' := by
  obtain ⟨_, hc, hC⟩ := Kd.R_reads' h
  subst hl
  have he : Ev (fun k => slices_Index_bool_bool.f k b true) ((firstF L b.length : Nat) : Int) := index_loop (linkedB L) b hb hn b.length 0 (by omega) (fun j h => absurd h (Nat.not_lt_zero j)) hf
  obtain ⟨k, hk⟩ := ev_some he
  exact slices_Index_bool_bool.calls k _ cap b true _ w hC hc hk
end Go.Proofs.Ytohhobcipfmkbaa.CFin
