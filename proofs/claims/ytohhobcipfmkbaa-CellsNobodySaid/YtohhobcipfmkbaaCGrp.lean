/- span.Groups and the document's. -/
import Derived.Test.YtohhobcipfmkbaaUGroups
import Derived.Test.YtohhobcipfmkbaaCCelP
import Derived.Test.YtohhobcipfmkbaaCCelR
import Derived.Test.YtohhobcipfmkbaaCFin14
namespace Go.Proofs.Ytohhobcipfmkbaa.UGroups
open Go.RowKit Go.Proofs.YtohhobcipfmkbaaW.PrintWords Go.Proofs.YtohhobcipfmkbaaW.PrintMore Go.Proofs.YtohhobcipfmkbaaW.PrintLast Go.Proofs.Ytohhobcipfmkbaa.U Go.Proofs.Ytohhobcipfmkbaa.PClusterFinest Go.Proofs.Ytohhobcipfmkbaa.UFinEv Go.Proofs.Ytohhobcipfmkbaa.CFin
set_option linter.unusedVariables false
set_option linter.unusedSimpArgs false
theorem rd_is (l : List Int) (t : Nat) : rd l (t : Int) = l.getD t 0 := by unfold rd; rw [Int.toNat_natCast]
theorem mx_max (a b : Int) : mx a b = max a b := by unfold mx; split <;> omega
theorem grp_end (N : Nat) (J : List S33) (h : 1 ≤ N) : groups N J = (grpTo N J (N - 1)).1 ++ [⟨((grpTo N J (N - 1)).2 : Int), (N : Int)⟩] := by
  unfold groups
  conv => lhs; rw [show N = (N - 1) + 1 by omega]
  rw [show grpTo (N - 1 + 1) J (N - 1 + 1) = stepG (N - 1 + 1) J (N - 1 + 1) (grpTo (N - 1 + 1) J (N - 1)) from rfl]
  rw [show N - 1 + 1 = N by omega]
  unfold stepG
  rw [if_pos (.inl rfl)]
theorem grp_l1 (N : Nat) (J : List S33) (l : List Int) (hl : Reach N J l) (hN : N ≤ 1000000) (d : Nat) : ∀ (t : Nat) (h : Int), t + d = N → 1 ≤ t → IsH N J t h → Ev (fun k => span_Groups.l1 k (grpTo N J (t - 1)).1 l (N : Int) (t : Int) ((grpTo N J (t - 1)).2 : Int) h) (groups N J) := by
  have hll := hl.1
  induction d with
  | zero =>
    intro t h hd h1 hh
    obtain rfl : t = N := by omega
    have := grp_len t J (t - 1)
    refine Ev.step (fun k => by rw [span_Groups.l1]) (ev_neg (by omega) (ev_pos (by omega) ?_))
    rw [grp_end t J h1, ← isH_last hh]
    exact ev_now _
  | succ d ih =>
    intro t h hd h1 hh
    have hlen := grp_len N J (t - 1)
    have hr := hl.2 t (by omega)
    have hs := isH_step hh hr
    have e1 : ((t + 1 : Nat) - 1) = t := by omega
    have hst : grpTo N J t = stepG N J t (grpTo N J (t - 1)) := by
      conv => lhs; rw [show t = (t - 1) + 1 by omega]
      rw [show grpTo N J (t - 1 + 1) = stepG N J (t - 1 + 1) (grpTo N J (t - 1)) from rfl, show t - 1 + 1 = t by omega]
    have hge := hh.ge
    refine Ev.step (fun k => by rw [span_Groups.l1]) (ev_pos (by omega) (ev_pos (by omega) (ev_pos (by omega) ?_)))
    have hI := ih (t + 1) _ (by omega) (by omega) hs
    rw [e1, hst] at hI
    by_cases hc : (t : Int) = h
    · have hb : acrossB N J t = false := (isH_end hh).1 hc.symm
      refine ev_pos hc (ev_pos (by omega) ?_)
      unfold stepG at hI
      rw [if_pos (.inr hb)] at hI
      rw [w64 (by omega) (by omega), rd_is, mx_max, show (t : Int) + 1 = ((t + 1 : Nat) : Int) by omega]
      rw [show max (max h ((t : Int) + 1)) (l.getD t 0) = max (((t + 1 : Nat)) : Int) (l.getD t 0) by omega] at hI
      rw [← hc]
      exact hI
    · have hb : ¬ (t = N ∨ acrossB N J t = false) := fun hx => by
        rcases hx with hx | hx
        · omega
        · exact hc ((isH_end hh).2 hx).symm
      refine ev_neg hc ?_
      unfold stepG at hI
      rw [if_neg hb] at hI
      rw [w64 (by omega) (by omega), rd_is, mx_max, show (t : Int) + 1 = ((t + 1 : Nat) : Int) by omega]
      rw [show max (max h ((t : Int) + 1)) (l.getD t 0) = max h (l.getD t 0) by omega] at hI
      exact hI
theorem right_is3 (a b : Int) : span_Right.f a b = some (decide (0 ≤ a ∧ a < b)) := by
  unfold span_Right.f
  by_cases h1 : 0 ≤ a <;> by_cases h2 : a < b <;> simp [h1, h2]
theorem grp_l0 (N : Nat) (J : List S33) (h1 : 1 ≤ N) (hN : N ≤ 1000000) (hJ : J.length ≤ 1000000) (d : Nat) : ∀ (i : Nat) (l : List Int), i + d = J.length → Reach N (J.take i) l → Ev (fun k => span_Groups.l0 k (N : Int) l J (J.length : Int) (i : Int)) (groups N J) := by
  induction d with
  | zero =>
    intro i l hd hl
    rw [List.take_of_length_le (by omega)] at hl
    have hll := hl.1
    refine Ev.step (fun k => by rw [span_Groups.l0]) (ev_neg (by omega) ?_)
    have h0 := isH_one (hl.2 0 (by omega))
    have hI := grp_l1 N J l hl hN (N - 1) 1 _ (by omega) (Nat.le_refl _) h0
    rw [hll]
    refine Ev.step (fun k => by rw [span_Groups.l1]) (ev_pos (by omega) (ev_pos (by omega) (ev_pos (by omega) (ev_neg (by omega) ?_))))
    rw [show rd l 0 = l.getD 0 0 from rfl, mx_max, show wrap64 (0 + 1) = ((1 : Nat) : Int) by rw [w64 (by omega) (by omega)]; rfl]
    exact hI
  | succ d ih =>
    intro i l hd hl
    have hlt : i < J.length := by omega
    have hll := hl.1
    have htk : J.take (i + 1) = J.take i ++ [J[i]] := by rw [List.take_succ_eq_append_getElem hlt]
    refine Ev.step (fun k => by rw [span_Groups.l0]) (ev_pos (by omega) (ev_pos (by omega) (ev_pos (by omega) ?_)))
    rw [rd33 hlt, right_is3, w64 (by omega) (by omega), show (i : Int) + 1 = ((i + 1 : Nat) : Int) by omega]
    by_cases hr : 0 ≤ J[i].f0 ∧ J[i].f0 < J[i].f1
    · rw [decide_eq_true hr]
      refine ev_bindc rfl (ev_pos rfl ?_)
      by_cases hh : J[i].f1 ≤ (N : Int)
      · have hok : OkS N J[i] := ⟨hr.1, hr.2, hh⟩
        refine ev_pos hh (ev_pos hr.1 (ev_pos (by omega) ?_))
        refine ih (i + 1) _ (by omega) ?_
        rw [htk]
        have := reach_yes hl hok
        rw [show rd l J[i].f0 = l.getD J[i].f0.toNat 0 from rfl, mx_max]
        exact this
      · refine ev_neg hh (ih (i + 1) _ (by omega) ?_)
        rw [htk]
        exact reach_no hl (fun h => hh h.2.2)
    · rw [decide_eq_false hr]
      refine ev_bindc rfl (ev_neg (by decide) (ih (i + 1) _ (by omega) ?_))
      rw [htk]
      exact reach_no hl (fun h => hr ⟨h.1, h.2.1⟩)
theorem groups_c (N : Nat) (hN : N ≤ 1000000) {w : World} {v : Value} {J : List S33} (h : SLk k33 w v J) (hJ : J.length ≤ 1000000) : Calls Try.prog 49 #[.int .i64 N, v] w fun e w' => ∃ u, e = .returned u ∧ Kd.R k33 33 w' w.heap.size (fun _ => True) u (groups N J) ∧ Below w.heap.size w w' := by
  obtain ⟨A, c, rfl, hc, hC⟩ := h
  have he : Ev (fun k => span_Groups.f k (N : Int) J) (groups N J) := by
    unfold span_Groups.f
    by_cases h0 : N = 0
    · subst h0
      exact ev_pos (by decide) (ev_now _)
    · refine ev_neg (by omega) (ev_pos (by omega) (ev_pos (by omega) ?_))
      rw [Int.toNat_natCast]
      exact grp_l0 N J (by omega) hN hJ J.length 0 _ (by omega) (by rw [List.take_zero]; exact reach_zero N)
  obtain ⟨k, hk⟩ := ev_some he
  refine (span_Groups.calls k N A c J _ w hC hc hk).mono ?_
  rintro e w' ⟨u, rfl, hu, hb⟩
  exact ⟨u, rfl, hu, hb⟩
theorem refRight_is3 (a b : Int) : naskhref03_Right.f a b = some (decide (0 ≤ a ∧ a < b)) := by
  unfold naskhref03_Right.f
  by_cases h1 : 0 ≤ a <;> by_cases h2 : a < b <;> simp [h1, h2]
theorem parted_l0 (N t : Nat) (J : List S33) (hJ : J.length ≤ 1000000) (d : Nat) : ∀ i : Nat, i + d = J.length → Ev (fun k => naskhref03_parted.l0 k (t : Int) (N : Int) J (i : Int)) (!acrossB N (J.drop i) t) := by
  induction d with
  | zero =>
    intro i hd
    rw [List.drop_of_length_le (by omega)]
    rw [show (!acrossB N [] t) = true from rfl]
    exact Ev.step (fun k => by rw [naskhref03_parted.l0]) (ev_neg (by omega) (ev_now _))
  | succ d ih =>
    intro i hd
    have hlt : i < J.length := by omega
    have hI := ih (i + 1) (by omega)
    have hcons : acrossB N (J.drop i) t = ((decide (OkS N J[i]) && (decide (J[i].f0 < (t : Int)) && decide ((t : Int) < J[i].f1))) || acrossB N (J.drop (i + 1)) t) := by
      rw [List.drop_eq_getElem_cons hlt]; rfl
    refine Ev.step (fun k => by rw [naskhref03_parted.l0]) (ev_pos (by omega) (ev_pos (by omega) ?_))
    rw [rd33 hlt, refRight_is3, w64 (by omega) (by omega), show (i : Int) + 1 = ((i + 1 : Nat) : Int) by omega, hcons]
    by_cases hr : 0 ≤ J[i].f0 ∧ J[i].f0 < J[i].f1
    · rw [decide_eq_true hr]
      refine ev_bindc rfl (ev_pos rfl ?_)
      by_cases hh : J[i].f1 ≤ (N : Int)
      · refine ev_pos hh ?_
        rw [decide_eq_true (show OkS N J[i] from ⟨hr.1, hr.2, hh⟩), Bool.true_and]
        by_cases h3 : J[i].f0 < (t : Int)
        · refine ev_pos h3 ?_
          rw [decide_eq_true h3, Bool.true_and]
          by_cases h4 : (t : Int) < J[i].f1
          · rw [decide_eq_true h4]
            exact ev_pos h4 (ev_now _)
          · rw [decide_eq_false h4, Bool.false_or]
            exact ev_neg h4 hI
        · refine ev_neg h3 ?_
          rw [decide_eq_false h3, Bool.false_and, Bool.false_or]
          exact hI
      · refine ev_neg hh ?_
        rw [decide_eq_false (show ¬ OkS N J[i] from fun h => hh h.2.2), Bool.false_and, Bool.false_or]
        exact hI
    · rw [decide_eq_false hr]
      refine ev_bindc rfl (ev_neg (by decide) ?_)
      rw [decide_eq_false (show ¬ OkS N J[i] from fun h => hr ⟨h.1, h.2.1⟩), Bool.false_and, Bool.false_or]
      exact hI
theorem parted_ev (N t : Nat) (J : List S33) (hJ : J.length ≤ 1000000) : Ev (fun k => naskhref03_parted.f k (t : Int) (N : Int) J) (!acrossB N J t) := parted_l0 N t J hJ J.length 0 (by omega)
theorem refGrp_l0 (N : Nat) (J : List S33) (hN : N ≤ 1000000) (hJ : J.length ≤ 1000000) (d : Nat) : ∀ t : Nat, t + d = N → Ev (fun k => naskhref03_Groups.l0 k (N : Int) J (grpTo N J t).1 ((grpTo N J t).2 : Int) ((t : Int) + 1)) (groups N J) := by
  induction d with
  | zero =>
    intro t hd
    obtain rfl : t = N := by omega
    rw [show groups t J = (grpTo t J t).1 from rfl]
    exact Ev.step (fun k => by rw [naskhref03_Groups.l0]) (ev_neg (by omega) (ev_now _))
  | succ d ih =>
    intro t hd
    have hlen := grp_len N J t
    have hI := ih (t + 1) (by omega)
    have hst : grpTo N J (t + 1) = stepG N J (t + 1) (grpTo N J t) := rfl
    rw [hst] at hI
    unfold stepG at hI
    refine Ev.step (fun k => by rw [naskhref03_Groups.l0]) (ev_pos (by omega) ?_)
    by_cases he : (t : Int) + 1 = (N : Int)
    · refine ev_pos he (ev_pos (by omega) ?_)
      rw [if_pos (.inl (by omega))] at hI
      rw [w64 (by omega) (by omega)]
      rw [show (((t + 1 : Nat)) : Int) = (t : Int) + 1 by omega] at hI
      exact hI
    · refine ev_neg he ?_
      have hp := parted_ev N (t + 1) J hJ
      rw [show (((t + 1 : Nat)) : Int) = (t : Int) + 1 by omega] at hp
      refine ev_bind hp ?_
      cases hc : acrossB N J (t + 1) with
      | true =>
        refine ev_neg (by decide) ?_
        rw [if_neg (by rw [hc]; intro h; rcases h with h | h; omega; cases h)] at hI
        rw [w64 (by omega) (by omega)]
        rw [show (((t + 1 : Nat)) : Int) = (t : Int) + 1 by omega] at hI
        exact hI
      | false =>
        refine ev_pos rfl (ev_pos (by omega) ?_)
        rw [if_pos (.inr hc)] at hI
        rw [w64 (by omega) (by omega)]
        rw [show (((t + 1 : Nat)) : Int) = (t : Int) + 1 by omega] at hI
        exact hI
theorem refGroups_c (N : Nat) (hN : N ≤ 1000000) {w : World} {v : Value} {J : List S33} (h : SLk k33 w v J) (hJ : J.length ≤ 1000000) : Calls Try.prog 51 #[.int .i64 N, v] w fun e w' => ∃ u, e = .returned u ∧ Kd.R k33 33 w' w.heap.size (fun _ => True) u (groups N J) ∧ Below w.heap.size w w' := by
  obtain ⟨A, c, rfl, hc, hC⟩ := h
  have he : Ev (fun k => naskhref03_Groups.f k (N : Int) J) (groups N J) := refGrp_l0 N J hN hJ N 0 (by omega)
  obtain ⟨k, hk⟩ := ev_some he
  refine (naskhref03_Groups.calls k N A c J _ w hC hc hk).mono ?_
  rintro e w' ⟨u, rfl, hu, hb⟩
  exact ⟨u, rfl, hu, hb⟩
end Go.Proofs.Ytohhobcipfmkbaa.UGroups
