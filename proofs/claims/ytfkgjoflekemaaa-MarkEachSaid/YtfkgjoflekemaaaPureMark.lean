/- What the printed functions of mark tell: the plain words of UMark. -/
import Derived.Test.YtfkgjoflekemaaaPMarkOnex3
import Derived.Test.YtfkgjoflekemaaaPMarkOnex1
import Derived.Test.YtfkgjoflekemaaaPMarkOnex2
import Derived.Test.YtfkgjoflekemaaaUMark
namespace Go.Proofs.Ytfkgjoflekemaaa.PureMark
open Go.RowKit Go.Proofs.Ytfkgjoflekemaaa.PMarkOne Go.Proofs.YtfkgjoflekemaaaW.PrintWords Go.Proofs.Ytfkgjoflekemaaa.U Go.Proofs.Ytfkgjoflekemaaa.UMark

theorem tash_eq (c : Int) : mark_Tashkeel.f c = some (tash c) := by
  unfold mark_Tashkeel.f tash
  by_cases h : c = 1648
  · simp [h]
  · rw [if_neg h]
    by_cases h2 : 1611 ≤ c
    · rw [if_pos h2]; simp [h, h2]
    · rw [if_neg h2]; simp [h, h2]
theorem rtash_eq (c : Int) : naskhref15_Tashkeel.f c = some (tash c) := by
  unfold naskhref15_Tashkeel.f tash
  by_cases h2 : 1611 ≤ c
  · rw [if_pos (show c ≥ 1611 from h2)]
    by_cases h3 : c ≤ 1618
    · rw [if_pos h3]; simp [h2, h3]
    · rw [if_neg h3]
      have : (c = 1648 ∨ 1611 ≤ c ∧ c ≤ 1618) ↔ c = 1648 := by omega
      simp only [this]
      congr 1
  · rw [if_neg (show ¬ c ≥ 1611 from h2)]
    have : (c = 1648 ∨ 1611 ≤ c ∧ c ≤ 1618) ↔ c = 1648 := by omega
    simp only [this]
    congr 1
theorem acc_eq (a : Int) (m : Bool) : forms_Accent.f 10 a m = some (acc a m) := by
  by_cases h : a = 1611 ∨ a = 1612 ∨ a = 1613 ∨ a = 1614 ∨ a = 1615 ∨ a = 1616 ∨ a = 1617 ∨ a = 1618
  · rcases h with rfl | rfl | rfl | rfl | rfl | rfl | rfl | rfl <;> cases m <;> decide +kernel
  · simp only [not_or] at h
    obtain ⟨h1, h2, h3, h4, h5, h6, h7, h8⟩ := h
    simp [forms_Accent.f, api_Accents.f, forms_Accent.l0, rd_T107, wrap64, acc, h1, h2, h3, h4, h5, h6, h7, h8, Ne.symm h1, Ne.symm h2, Ne.symm h3, Ne.symm h4, Ne.symm h5, Ne.symm h6, Ne.symm h7, Ne.symm h8]
theorem racc_eq (a : Int) (m : Bool) : naskhref09_Accent.f 10 a m = some (acc a m) := by
  by_cases h : a = 1611 ∨ a = 1612 ∨ a = 1613 ∨ a = 1614 ∨ a = 1615 ∨ a = 1616 ∨ a = 1617 ∨ a = 1618
  · rcases h with rfl | rfl | rfl | rfl | rfl | rfl | rfl | rfl <;> cases m <;> decide +kernel
  · simp only [not_or] at h
    obtain ⟨h1, h2, h3, h4, h5, h6, h7, h8⟩ := h
    simp [naskhref09_Accent.f, api_Accents.f, naskhref09_Accent.l0, rd_T107, wrap64, acc, h1, h2, h3, h4, h5, h6, h7, h8, Ne.symm h1, Ne.symm h2, Ne.symm h3, Ne.symm h4, Ne.symm h5, Ne.symm h6, Ne.symm h7, Ne.symm h8]
theorem acc_ev (a : Int) (m : Bool) : Ev (fun k => forms_Accent.f k a m) (acc a m) := ev_at (fun k => forms_Accent.mono a m k) 10 (acc_eq a m)
theorem racc_ev (a : Int) (m : Bool) : Ev (fun k => naskhref09_Accent.f k a m) (acc a m) := ev_at (fun k => naskhref09_Accent.mono a m k) 10 (racc_eq a m)
theorem alone_ev (c : Int) : Ev (fun k => mark_alone.f k c) (alone c) := by
  unfold mark_alone.f alone
  exact ev_bind (acc_ev c false) (ev_ite (fun h => by rw [if_pos h]; exact ev_now _) (fun h => by rw [if_neg h]; exact ev_now _))
theorem carried_ev (c : Int) : Ev (fun k => mark_carried.f k c) (carried c) := by
  unfold mark_carried.f carried
  exact ev_bind (acc_ev c true) (ev_ite (fun h => by rw [if_pos h]; exact ev_now _) (fun h => by rw [if_neg h]; exact ev_bind (alone_ev c) (ev_now _)))
theorem one_ev (c mode : Int) (over : Bool) : Ev (fun k => mark_One.f k c mode over) (oneL c mode over) := by
  unfold mark_One.f oneL
  refine ev_bindc (tash_eq c) (ev_ite (fun h => ?_) (fun h => by rw [if_neg h]; exact ev_now _))
  rw [if_pos h]
  refine ev_ite (fun h1 => ?_) (fun h1 => ?_)
  · rw [if_pos h1]
    refine ev_ite (fun h2 => ?_) (fun h2 => ?_)
    · rw [if_pos h2]; exact ev_bind (carried_ev c) (ev_now _)
    · rw [if_neg h2]; exact ev_bind (alone_ev c) (ev_now _)
  · rw [if_neg h1]
    refine ev_ite (fun h2 => ?_) (fun h2 => ?_)
    · rw [if_pos h2]; exact ev_bind (alone_ev c) (ev_now _)
    · rw [if_neg h2]
      refine ev_ite (fun h3 => ?_) (fun h3 => ?_)
      · rw [if_pos h3]
        exact ev_ite (fun h4 => by rw [if_pos h4]; exact ev_now _) (fun h4 => by rw [if_neg h4]; exact ev_now _)
      · rw [if_neg h3]
        exact ev_ite (fun h4 => by rw [if_pos h4]; exact ev_now _) (fun h4 => by rw [if_neg h4]; exact ev_now _)
theorem acc_both (c : Int) (h : (acc c true).2 = true) : (acc c false).2 = true := by
  unfold acc at h ⊢
  repeat' split at h
  all_goals simp_all
theorem rone_ev (c mode : Int) (over : Bool) : Ev (fun k => naskhref15_One.f k c mode over) (oneL c mode over) := by
  unfold naskhref15_One.f oneL
  refine ev_bindc (rtash_eq c) (ev_ite (fun h => ?_) (fun h => by rw [if_neg h]; exact ev_now _))
  rw [if_pos h]
  refine ev_bind (racc_ev c false) (ev_bind (racc_ev c true) ?_)
  have j1f : Ev (fun k => naskhref15_One.j1 k c (acc c false).1 (acc c false).2 (acc c true).1 false) [alone c] := by
    refine Ev.step (fun k => by rw [naskhref15_One.j1]) (ev_neg (by simp) (ev_ite (fun h1 => ?_) (fun h1 => ?_)))
    · unfold alone; rw [if_pos h1]; exact ev_now _
    · unfold alone; rw [if_neg h1]; exact ev_now _
  refine ev_ite (fun h1 => ?_) (fun h1 => ?_)
  · subst h1
    rw [if_neg (by decide), if_pos rfl]
    exact Ev.step (fun k => by rw [naskhref15_One.j0]) (ev_pos (by rfl) (ev_neg (by decide) j1f))
  · rw [if_neg h1]
    by_cases h2 : mode = 2
    · subst h2
      rw [if_pos rfl]
      refine Ev.step (fun k => by rw [naskhref15_One.j0]) (ev_pos (by rfl) (ev_pos rfl (ev_ite (fun h3 => ?_) (fun h3 => ?_))))
      · rw [if_pos h3]
        by_cases h4 : (acc c true).2 = true
        · unfold carried
          rw [if_pos h4, h4]
          exact Ev.step (fun k => by rw [naskhref15_One.j1]) (ev_pos rfl (ev_now _))
        · unfold carried
          rw [if_neg h4, Bool.eq_false_iff.mpr h4]
          exact j1f
      · rw [if_neg h3]; exact j1f
    · rw [if_neg h2, show (mode == 2) = false by simpa using h2]
      refine Ev.step (fun k => by rw [naskhref15_One.j0]) (ev_neg (by simp) ?_)
      by_cases h3 : mode = 3
      · subst h3
        refine ev_eq (r := ([] : List Int)) (ev_pos (show (3 : Int) = 3 from rfl) (ev_now _)) ?_
        rw [if_neg (show ¬ (3 : Int) = 4 by decide), if_pos rfl]
      · refine ev_neg h3 ?_
        refine ev_ite (fun h4 => ?_) (fun h4 => ?_)
        · rw [if_pos h4]
          exact ev_ite (fun h4 => by rw [if_pos h4]; exact ev_now _) (fun h4 => by rw [if_neg h4]; exact ev_now _)
        · rw [if_neg h4, if_neg h3]; exact ev_now _
theorem pile_eq (a : Int) : forms_Pile.f 10 a = some (pile a) := by
  by_cases h : a = 1612 ∨ a = 1613 ∨ a = 1614 ∨ a = 1615 ∨ a = 1616 ∨ a = 1648
  · rcases h with rfl | rfl | rfl | rfl | rfl | rfl <;> decide +kernel
  · simp only [not_or] at h
    obtain ⟨h1, h2, h3, h4, h5, h6⟩ := h
    simp [forms_Pile.f, api_Piles.f, forms_Pile.l0, rd_T112, wrap64, pile, h1, h2, h3, h4, h5, h6, Ne.symm h1, Ne.symm h2, Ne.symm h3, Ne.symm h4, Ne.symm h5, Ne.symm h6]
theorem pile_ev (a : Int) : Ev (fun k => forms_Pile.f k a) (pile a) := ev_at (fun k => forms_Pile.mono a k) 10 (pile_eq a)
theorem pilesN_snoc (text : List Int) (n : Nat) : ((List.range (n + 1)).filter (pileAt text)).map (fun i : Nat => (i : Int)) = ((List.range n).filter (pileAt text)).map (fun i : Nat => (i : Int)) ++ (if pileAt text n then [(n : Int)] else []) := by
  rw [List.range_succ, List.filter_append, List.map_append]
  congr 1
  cases h : pileAt text n <;> simp [h]
theorem piles_loop (text : List Int) (hm : text.length ≤ 1000000) (n : Nat) : ∀ (i : Nat) (out : List Int), i + n = text.length → out = ((List.range i).filter (pileAt text)).map (fun i : Nat => (i : Int)) →
    Ev (fun k => mark_Piles.l0 k text out text (text.length : Int) i) (pilesL text) := by
  induction n with
  | zero =>
    intro i out hi ho
    refine Ev.step (fun k => by rw [mark_Piles.l0]) (ev_neg (by omega) (ev_eq (ev_now _) ?_))
    rw [ho, show i = text.length by omega]
    rfl
  | succ n ih =>
    intro i out hi ho
    have hol : out.length < 17592186044416 := by
      rw [ho, List.length_map]
      have := List.length_filter_le (pileAt text) (List.range i)
      rw [List.length_range] at this
      omega
    have key : ∀ o, o = out ++ (if pileAt text i then [(i : Int)] else []) → Ev (fun k => mark_Piles.l0 k text o text (text.length : Int) (wrap64 ((i : Int) + 1))) (pilesL text) := by
      rintro o rfl
      rw [w64 (by omega) (by omega)]
      refine ih (i + 1) _ (by omega) ?_
      rw [pilesN_snoc, ho]
    have no : pileAt text i = false → Ev (fun k => mark_Piles.j1 k text out i text (text.length : Int) i true) (pilesL text) := fun h =>
      Ev.step (fun k => by rw [mark_Piles.j1]) (ev_pos rfl (key _ (by rw [h]; simp)))
    refine Ev.step (fun k => by rw [mark_Piles.l0]) (ev_pos (by omega) (ev_pos (by omega) (ev_pos (by omega) ?_)))
    refine ev_ite (fun h => ?_) (fun h => no (by unfold pileAt; simp [h]))
    rw [w64 (by omega) (by omega)]
    by_cases h2 : (i : Int) + 1 = text.length
    · rw [show ((i : Int) + 1 == (text.length : Int)) = true by simpa using h2]
      exact no (by unfold pileAt; rw [decide_eq_false (by omega)]; simp)
    · rw [show ((i : Int) + 1 == (text.length : Int)) = false by simpa using h2]
      refine Ev.step (fun k => by rw [mark_Piles.j1]) (ev_neg (by simp) ?_)
      rw [w64 (n := (i : Int) + 1) (by omega) (by omega)]
      refine ev_pos (by omega) (ev_pos (by omega) (ev_bind (pile_ev _) ?_))
      have hp : pileAt text i = (pile (rd text ((i : Int) + 1))).2 := by
        unfold pileAt
        rw [decide_eq_true (by omega), decide_eq_true h]
        simp
      refine ev_ite (fun h3 => ev_pos hol ?_) (fun h3 => ?_)
      · have := key (out ++ [(i : Int)]) (by rw [hp, h3]; rfl)
        rw [w64 (by omega) (by omega)] at this
        exact this
      · have := key out (by rw [hp, Bool.eq_false_iff.mpr h3]; simp)
        rw [w64 (by omega) (by omega)] at this
        exact this
theorem piles_ev (text : List Int) (hm : text.length ≤ 1000000) : Ev (fun k => mark_Piles.f k text) (pilesL text) := piles_loop text hm text.length 0 [] (by omega) rfl
theorem pilesB_ev (mode : Int) : Ev (fun k => mark_piles.f k mode) (pilesB mode) := by
  by_cases h : mode = 0 ∨ mode = 1 ∨ mode = 2
  · refine ev_at (fun k => mark_piles.mono mode k) 10 ?_
    rcases h with rfl | rfl | rfl <;> decide +kernel
  · refine ev_at (fun k => mark_piles.mono mode k) 10 ?_
    simp only [not_or] at h
    obtain ⟨h1, h2, h3⟩ := h
    simp [mark_piles.f, slices_Contains_int_int.f, slices_Index_int_int.f, slices_Index_int_int.l0, rd, wrap64, pilesB, h1, h2, h3]
end Go.Proofs.Ytfkgjoflekemaaa.PureMark
