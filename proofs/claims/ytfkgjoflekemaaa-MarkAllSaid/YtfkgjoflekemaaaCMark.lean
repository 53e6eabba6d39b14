/- Merged of own texts: PureMark, CMark, CMark2, CJoins. -/
import Derived.Test.YtfkgjoflekemaaaPMarkOnex3
import Derived.Test.YtfkgjoflekemaaaPMarkOnex1
import Derived.Test.YtfkgjoflekemaaaPMarkOnex2
import Derived.Test.YtfkgjoflekemaaaUPlain
import Derived.Test.YtfkgjoflekemaaaCJoin
import Derived.Test.YtfkgjoflekemaaaUBase
import Derived.IntWalk
import Derived.Test.YtfkgjoflekemaaaCBase
import Derived.Test.YtfkgjoflekemaaaPGetx1
/-! What the printed functions of mark tell: the plain words of UMark. -/
namespace Go.Proofs.Ytfkgjoflekemaaa.PureMark
open Go.RowKit Go.Proofs.Ytfkgjoflekemaaa.PMarkOne Go.Proofs.YtfkgjoflekemaaaW.PrintWords Go.Proofs.Ytfkgjoflekemaaa.U Go.Proofs.Ytfkgjoflekemaaa.UMark

theorem tash_eq (c : Int) : mark_Tashkeel.f c = some (tash c) := by
  unfold mark_Tashkeel.f tash
  by_cases h : c = 1648
  · simp [h]
  · rw [if_neg h]
    by_cases h2 : 1611 ≤ c
    · rw [if_pos h2]; simp [h, h2]
    · rw [if_neg h2]; simp [h, h2]
theorem rtash_eq (c : Int) : naskhref15_Tashkeel.f c = some (tash c) := by
  unfold naskhref15_Tashkeel.f tash
  by_cases h2 : 1611 ≤ c
  · rw [if_pos (show c ≥ 1611 from h2)]
    by_cases h3 : c ≤ 1618
    · rw [if_pos h3]; simp [h2, h3]
    · rw [if_neg h3]
      have : (c = 1648 ∨ 1611 ≤ c ∧ c ≤ 1618) ↔ c = 1648 := by omega
      simp only [this]
      congr 1
  · rw [if_neg (show ¬ c ≥ 1611 from h2)]
    have : (c = 1648 ∨ 1611 ≤ c ∧ c ≤ 1618) ↔ c = 1648 := by omega
    simp only [this]
    congr 1
theorem acc_eq (a : Int) (m : Bool) : forms_Accent.f 10 a m = some (acc a m) := by
  by_cases h : a = 1611 ∨ a = 1612 ∨ a = 1613 ∨ a = 1614 ∨ a = 1615 ∨ a = 1616 ∨ a = 1617 ∨ a = 1618
  · rcases h with rfl | rfl | rfl | rfl | rfl | rfl | rfl | rfl <;> cases m <;> decide +kernel
  · simp only [not_or] at h
    obtain ⟨h1, h2, h3, h4, h5, h6, h7, h8⟩ := h
    simp [forms_Accent.f, api_Accents.f, forms_Accent.l0, rd_T107, wrap64, acc, h1, h2, h3, h4, h5, h6, h7, h8, Ne.symm h1, Ne.symm h2, Ne.symm h3, Ne.symm h4, Ne.symm h5, Ne.symm h6, Ne.symm h7, Ne.symm h8]
theorem racc_eq (a : Int) (m : Bool) : naskhref09_Accent.f 10 a m = some (acc a m) := by
  by_cases h : a = 1611 ∨ a = 1612 ∨ a = 1613 ∨ a = 1614 ∨ a = 1615 ∨ a = 1616 ∨ a = 1617 ∨ a = 1618
  · rcases h with rfl | rfl | rfl | rfl | rfl | rfl | rfl | rfl <;> cases m <;> decide +kernel
  · simp only [not_or] at h
    obtain ⟨h1, h2, h3, h4, h5, h6, h7, h8⟩ := h
    simp [naskhref09_Accent.f, api_Accents.f, naskhref09_Accent.l0, rd_T107, wrap64, acc, h1, h2, h3, h4, h5, h6, h7, h8, Ne.symm h1, Ne.symm h2, Ne.symm h3, Ne.symm h4, Ne.symm h5, Ne.symm h6, Ne.symm h7, Ne.symm h8]
theorem acc_ev (a : Int) (m : Bool) : Ev (fun k => forms_Accent.f k a m) (acc a m) := ev_at (fun k => forms_Accent.mono a m k) 10 (acc_eq a m)
theorem racc_ev (a : Int) (m : Bool) : Ev (fun k => naskhref09_Accent.f k a m) (acc a m) := ev_at (fun k => naskhref09_Accent.mono a m k) 10 (racc_eq a m)
theorem alone_ev (c : Int) : Ev (fun k => mark_alone.f k c) (alone c) := by
  unfold mark_alone.f alone
  exact ev_bind (acc_ev c false) (ev_ite (fun h => by rw [if_pos h]; exact ev_now _) (fun h => by rw [if_neg h]; exact ev_now _))
theorem carried_ev (c : Int) : Ev (fun k => mark_carried.f k c) (carried c) := by
  unfold mark_carried.f carried
  exact ev_bind (acc_ev c true) (ev_ite (fun h => by rw [if_pos h]; exact ev_now _) (fun h => by rw [if_neg h]; exact ev_bind (alone_ev c) (ev_now _)))
theorem one_ev (c mode : Int) (over : Bool) : Ev (fun k => mark_One.f k c mode over) (oneL c mode over) := by
  unfold mark_One.f oneL
  refine ev_bindc (tash_eq c) (ev_ite (fun h => ?_) (fun h => by rw [if_neg h]; exact ev_now _))
  rw [if_pos h]
  refine ev_ite (fun h1 => ?_) (fun h1 => ?_)
  · rw [if_pos h1]
    refine ev_ite (fun h2 => ?_) (fun h2 => ?_)
    · rw [if_pos h2]; exact ev_bind (carried_ev c) (ev_now _)
    · rw [if_neg h2]; exact ev_bind (alone_ev c) (ev_now _)
  · rw [if_neg h1]
    refine ev_ite (fun h2 => ?_) (fun h2 => ?_)
    · rw [if_pos h2]; exact ev_bind (alone_ev c) (ev_now _)
    · rw [if_neg h2]
      refine ev_ite (fun h3 => ?_) (fun h3 => ?_)
      · rw [if_pos h3]
        exact ev_ite (fun h4 => by rw [if_pos h4]; exact ev_now _) (fun h4 => by rw [if_neg h4]; exact ev_now _)
      · rw [if_neg h3]
        exact ev_ite (fun h4 => by rw [if_pos h4]; exact ev_now _) (fun h4 => by rw [if_neg h4]; exact ev_now _)
theorem acc_both (c : Int) (h : (acc c true).2 = true) : (acc c false).2 = true := by
  unfold acc at h ⊢
  repeat' split at h
  all_goals simp_all
theorem rone_ev (c mode : Int) (over : Bool) : Ev (fun k => naskhref15_One.f k c mode over) (oneL c mode over) := by
  unfold naskhref15_One.f oneL
  refine ev_bindc (rtash_eq c) (ev_ite (fun h => ?_) (fun h => by rw [if_neg h]; exact ev_now _))
  rw [if_pos h]
  refine ev_bind (racc_ev c false) (ev_bind (racc_ev c true) ?_)
  have j1f : Ev (fun k => naskhref15_One.j1 k c (acc c false).1 (acc c false).2 (acc c true).1 false) [alone c] := by
    refine Ev.step (fun k => by rw [naskhref15_One.j1]) (ev_neg (by simp) (ev_ite (fun h1 => ?_) (fun h1 => ?_)))
    · unfold alone; rw [if_pos h1]; exact ev_now _
    · unfold alone; rw [if_neg h1]; exact ev_now _
  refine ev_ite (fun h1 => ?_) (fun h1 => ?_)
  · subst h1
    rw [if_neg (by decide), if_pos rfl]
    exact Ev.step (fun k => by rw [naskhref15_One.j0]) (ev_pos (by rfl) (ev_neg (by decide) j1f))
  · rw [if_neg h1]
    by_cases h2 : mode = 2
    · subst h2
      rw [if_pos rfl]
      refine Ev.step (fun k => by rw [naskhref15_One.j0]) (ev_pos (by rfl) (ev_pos rfl (ev_ite (fun h3 => ?_) (fun h3 => ?_))))
      · rw [if_pos h3]
        by_cases h4 : (acc c true).2 = true
        · unfold carried
          rw [if_pos h4, h4]
          exact Ev.step (fun k => by rw [naskhref15_One.j1]) (ev_pos rfl (ev_now _))
        · unfold carried
          rw [if_neg h4, Bool.eq_false_iff.mpr h4]
          exact j1f
      · rw [if_neg h3]; exact j1f
    · rw [if_neg h2, show (mode == 2) = false by simpa using h2]
      refine Ev.step (fun k => by rw [naskhref15_One.j0]) (ev_neg (by simp) ?_)
      by_cases h3 : mode = 3
      · subst h3
        refine ev_eq (r := ([] : List Int)) (ev_pos (show (3 : Int) = 3 from rfl) (ev_now _)) ?_
        rw [if_neg (show ¬ (3 : Int) = 4 by decide), if_pos rfl]
      · refine ev_neg h3 ?_
        refine ev_ite (fun h4 => ?_) (fun h4 => ?_)
        · rw [if_pos h4]
          exact ev_ite (fun h4 => by rw [if_pos h4]; exact ev_now _) (fun h4 => by rw [if_neg h4]; exact ev_now _)
        · rw [if_neg h4, if_neg h3]; exact ev_now _
theorem pile_eq (a : Int) : forms_Pile.f 10 a = some (pile a) := by
  by_cases h : a = 1612 ∨ a = 1613 ∨ a = 1614 ∨ a = 1615 ∨ a = 1616 ∨ a = 1648
  · rcases h with rfl | rfl | rfl | rfl | rfl | rfl <;> decide +kernel
  · simp only [not_or] at h
    obtain ⟨h1, h2, h3, h4, h5, h6⟩ := h
    simp [forms_Pile.f, api_Piles.f, forms_Pile.l0, rd_T112, wrap64, pile, h1, h2, h3, h4, h5, h6, Ne.symm h1, Ne.symm h2, Ne.symm h3, Ne.symm h4, Ne.symm h5, Ne.symm h6]
theorem pile_ev (a : Int) : Ev (fun k => forms_Pile.f k a) (pile a) := ev_at (fun k => forms_Pile.mono a k) 10 (pile_eq a)
theorem pilesN_snoc (text : List Int) (n : Nat) : ((List.range (n + 1)).filter (pileAt text)).map (fun i : Nat => (i : Int)) = ((List.range n).filter (pileAt text)).map (fun i : Nat => (i : Int)) ++ (if pileAt text n then [(n : Int)] else []) := by
  rw [List.range_succ, List.filter_append, List.map_append]
  congr 1
  cases h : pileAt text n <;> simp [h]
theorem piles_loop (text : List Int) (hm : text.length ≤ 1000000) (n : Nat) : ∀ (i : Nat) (out : List Int), i + n = text.length → out = ((List.range i).filter (pileAt text)).map (fun i : Nat => (i : Int)) →
    Ev (fun k => mark_Piles.l0 k text out text (text.length : Int) i) (pilesL text) := by
  induction n with
  | zero =>
    intro i out hi ho
    refine Ev.step (fun k => by rw [mark_Piles.l0]) (ev_neg (by omega) (ev_eq (ev_now _) ?_))
    rw [ho, show i = text.length by omega]
    rfl
  | succ n ih =>
    intro i out hi ho
    have hol : out.length < 17592186044416 := by
      rw [ho, List.length_map]
      have := List.length_filter_le (pileAt text) (List.range i)
      rw [List.length_range] at this
      omega
    have key : ∀ o, o = out ++ (if pileAt text i then [(i : Int)] else []) → Ev (fun k => mark_Piles.l0 k text o text (text.length : Int) (wrap64 ((i : Int) + 1))) (pilesL text) := by
      rintro o rfl
      rw [w64 (by omega) (by omega)]
      refine ih (i + 1) _ (by omega) ?_
      rw [pilesN_snoc, ho]
    have no : pileAt text i = false → Ev (fun k => mark_Piles.j1 k text out i text (text.length : Int) i true) (pilesL text) := fun h =>
      Ev.step (fun k => by rw [mark_Piles.j1]) (ev_pos rfl (key _ (by rw [h]; simp)))
    refine Ev.step (fun k => by rw [mark_Piles.l0]) (ev_pos (by omega) (ev_pos (by omega) (ev_pos (by omega) ?_)))
    refine ev_ite (fun h => ?_) (fun h => no (by unfold pileAt; simp [h]))
    rw [w64 (by omega) (by omega)]
    by_cases h2 : (i : Int) + 1 = text.length
    · rw [show ((i : Int) + 1 == (text.length : Int)) = true by simpa using h2]
      exact no (by unfold pileAt; rw [decide_eq_false (by omega)]; simp)
    · rw [show ((i : Int) + 1 == (text.length : Int)) = false by simpa using h2]
      refine Ev.step (fun k => by rw [mark_Piles.j1]) (ev_neg (by simp) ?_)
      rw [w64 (n := (i : Int) + 1) (by omega) (by omega)]
      refine ev_pos (by omega) (ev_pos (by omega) (ev_bind (pile_ev _) ?_))
      have hp : pileAt text i = (pile (rd text ((i : Int) + 1))).2 := by
        unfold pileAt
        rw [decide_eq_true (by omega), decide_eq_true h]
        simp
      refine ev_ite (fun h3 => ev_pos hol ?_) (fun h3 => ?_)
      · have := key (out ++ [(i : Int)]) (by rw [hp, h3]; rfl)
        rw [w64 (by omega) (by omega)] at this
        exact this
      · have := key out (by rw [hp, Bool.eq_false_iff.mpr h3]; simp)
        rw [w64 (by omega) (by omega)] at this
        exact this
theorem piles_ev (text : List Int) (hm : text.length ≤ 1000000) : Ev (fun k => mark_Piles.f k text) (pilesL text) := piles_loop text hm text.length 0 [] (by omega) rfl
theorem pilesB_ev (mode : Int) : Ev (fun k => mark_piles.f k mode) (pilesB mode) := by
  by_cases h : mode = 0 ∨ mode = 1 ∨ mode = 2
  · refine ev_at (fun k => mark_piles.mono mode k) 10 ?_
    rcases h with rfl | rfl | rfl <;> decide +kernel
  · refine ev_at (fun k => mark_piles.mono mode k) 10 ?_
    simp only [not_or] at h
    obtain ⟨h1, h2, h3⟩ := h
    simp [mark_piles.f, slices_Contains_int_int.f, slices_Index_int_int.f, slices_Index_int_int.l0, rd, wrap64, pilesB, h1, h2, h3]
end Go.Proofs.Ytfkgjoflekemaaa.PureMark
/-! mark.All: what it answers, as a plain function; and the contracts of mark's other functions over slices that read as lists. -/
namespace Go.Proofs.Ytfkgjoflekemaaa.CMark
open Go.RowKit Go.Proofs.Ytfkgjoflekemaaa.PMarkOne Go.Proofs.YtfkgjoflekemaaaW.PrintWords Go.Proofs.YtfkgjoflekemaaaW.PrintMore Go.Proofs.Ytfkgjoflekemaaa.U Go.Proofs.Ytfkgjoflekemaaa.UJoin Go.Proofs.Ytfkgjoflekemaaa.UMark Go.Proofs.Ytfkgjoflekemaaa.PureMark Go.Proofs.Ytfkgjoflekemaaa.CJoin3 Go.Proofs.Ytfkgjoflekemaaa.CBase
set_option linter.unusedVariables false
set_option linter.unusedSimpArgs false
theorem info22 : (Try.prog.info? 22).map (fun i => (i.zero, i.size, i.bytes)) = some (some (.slice none 0 0), 1, 24) := by kernel_rfl
theorem one_c (c mode : Int) (over : Bool) (w : World) : Calls Try.prog 37 #[.int .i64 c, .int .i64 mode, .bool over] w fun e w' => ∃ u, e = .returned u ∧ SL w' u (oneL c mode over) ∧ Below w.heap.size w w' := by
  obtain ⟨k, hk⟩ := (one_ev c mode over).rounds
  exact (mark_One.calls k c mode over _ w hk).mono fun e w' ⟨u, he, hr, hb⟩ => ⟨u, he, SLk.of_R hr, hb⟩
theorem piles_c {v : Value} {xs : List Int} {w : World} (h : SL w v xs) (hm : xs.length ≤ 1000000) : Calls Try.prog 46 #[v] w fun e w' => ∃ u, e = .returned u ∧ SL w' u (pilesL xs) ∧ Below w.heap.size w w' := by
  obtain ⟨A, c, rfl, hc, h⟩ := h
  obtain ⟨k, hk⟩ := (piles_ev xs hm).rounds
  exact (mark_Piles.calls k A c xs _ w h hc hk).mono fun e w' ⟨u, he, hr, hb⟩ => ⟨u, he, SLk.of_R hr, hb⟩
theorem pile_c (a : Int) (w : World) : Calls Try.prog 86 #[.int .i64 a] w fun e w' => e = .returned (.tuple #[.int .i64 (pile a).1, .bool (pile a).2]) ∧ Below w.heap.size w w' :=
  forms_Pile.calls 10 a _ _ w (pile_eq a)
theorem pilesB_c (mode : Int) (w : World) : Calls Try.prog 85 #[.int .i64 mode] w fun e w' => e = .returned (.bool (pilesB mode)) ∧ Below w.heap.size w w' := by
  obtain ⟨k, hk⟩ := (pilesB_ev mode).rounds
  exact mark_piles.calls k mode _ w hk
def baseTo (text types : List Int) (mode : Int) (k : Nat) : List (List Int) := ((List.range k).map fun i : Nat => oneL (rd text i) mode (overI types i)) ++ List.replicate (text.length - k) []
theorem baseTo_zero (text types : List Int) (mode : Int) : baseTo text types mode 0 = List.replicate text.length [] := by simp [baseTo]
theorem baseTo_all (text types : List Int) (mode : Int) : baseTo text types mode text.length = base text types mode := by simp [baseTo, base]
theorem baseTo_length (text types : List Int) (mode : Int) (k : Nat) (hk : k ≤ text.length) : (baseTo text types mode k).length = text.length := by simp [baseTo]; omega
theorem baseTo_succ (text types : List Int) (mode : Int) (k : Nat) (hk : k < text.length) : (baseTo text types mode k).set k (oneL (rd text k) mode (overI types k)) = baseTo text types mode (k + 1) := by
  unfold baseTo
  rw [List.range_succ, List.map_append, List.set_append_right _ _ (by simp), show text.length - k = (text.length - (k + 1)) + 1 by omega, List.replicate_succ]
  simp
theorem setPiles_snoc (text : List Int) (i : Nat) (l : List Nat) : ∀ out, setPiles text (l ++ [i]) out = ((setPiles text l out).set i [(pile (rd text ((i + 1 : Nat) : Int))).1]).set (i + 1) [] := by
  induction l with
  | nil => intro out; rfl
  | cons j r ih => intro out; rw [List.cons_append, setPiles, ih, setPiles]
theorem take_snoc' (l : List Nat) (k i : Nat) (h : l[k]? = some i) : l.take (k + 1) = l.take k ++ [i] := by
  rw [List.take_add_one, h]
  rfl
set_option maxRecDepth 100000 in
set_option maxHeartbeats 2000000 in
theorem all_c {v0 v1 : Value} {text types : List Int} {w : World} (h0 : SL w v0 text) (h1 : SL w v1 types) (mode : Int) (pl : Bool) (hm : text.length ≤ 1000000) (hm1 : types.length ≤ 1000000) :
    Calls Try.prog 43 #[v0, v1, .int .i64 mode, .bool pl] w fun e w' => ∃ u, e = .returned u ∧ RS 22 w' w.heap.size u (allL text types mode pl) ∧ Below w.heap.size w w' := by
  have H0 := Aside0.mk h0
  have H1 := Aside0.mk h1
  obtain ⟨A, ca, rfl, _, hC0⟩ := h0
  obtain ⟨B, cb, rfl, _, hC1⟩ := h1
  have HC0 := Aside0.mk hC0
  clear hC0 hC1
  by_cases hl : text.length = types.length
  · have hne : ((text.length : Int) != (types.length : Int)) = false := by simp [hl]
    have HL := Aside0.mk hl
    clear hl
    go_enter Try.func43, Try.ntmps43
    go_wp2_with (first | (refine Kd.R_make KH (w0 := w) w.heap.size 22 rfl (N := 23) rfl 41 _ _ rfl text.length rfl rfl Try.underlying41 (.slice none 0 0) 24 info22 rfl (by decide) (by omega) (none, 0, 0) (ok := fun _ => True) (okp := fun _ => True) rfl (fun _ hk => hk) trivial (by omega) (by omega) (Below.refl _ _) (Nat.le_refl _) ?_; intro v w1 hv hb hg hnew; obtain ⟨go, cap, ev, hgo⟩ := R_form hv (hnew.imp fun _ h => h.1); subst ev; have hr := RS.nils hv; simp only [List.length_replicate, Int.toNat_natCast] at hr; have HR := Aside0.mk hr; have HB := Aside0.mk hb; clear hv hb hg hnew hgo hr; simp only [List.length_replicate, Int.toNat_natCast]))
    go_loopw [26] (fun v wr => ∃ k : Nat, v = .int .i64 k ∧ k ≤ text.length ∧ Aside0 (RS 22 wr w.heap.size (.slice (some ⟨go, 0, none⟩) text.length cap) (baseTo text types mode k)) ∧ Aside0 (Below w.heap.size w wr)) (fun v _ => text.length - (intOf v).toNat)
    case atStart => exact ⟨0, rfl, Nat.zero_le _, ⟨by rw [baseTo_zero]; exact HR.out⟩, HB⟩
    case round =>
      clear HR HB
      obtain ⟨k, rfl, hk, HR, HB⟩ := hrel
      by_cases hlt : k < text.length
      · have hltI : (k : Int) < (text.length : Int) := by omega
        have hkI : 0 ≤ (k : Int) := by omega
        obtain ⟨ad, ea, hx⟩ := Kd.at_int (Kd.C_below HC0.out HB.out) (k : Int) hkI hltI
        cases ea
        simp only [Int.toNat_natCast] at hx
        go_wp2_with fail
        refine (over_c (SLk.below H1.out HB.out) hm1 (k : Int)).mono ?_
        rintro e w2 ⟨rfl, hb⟩
        have HB2 := Aside0.mk (below_step HB.out hb)
        have HR2 := Aside0.mk (RS.below HR.out hb)
        clear hb HB HR hx
        go_wp2_with fail
        refine (one_c _ _ _ _).mono ?_
        rintro e w3 ⟨u, rfl, hu, hb⟩
        have HB3 := Aside0.mk (below_step HB2.out hb)
        have HR3 := Aside0.mk (RS.below HR2.out hb)
        have HU := Aside0.mk hu
        have hg := (RS.put HR3.out (by rw [baseTo_length _ _ _ _ hk]) k (by rw [baseTo_length _ _ _ _ hk]; exact hlt) hu)
        rw [baseTo_succ _ _ _ _ hlt] at hg
        have hgo : w.heap.size ≤ go := by
          obtain ⟨g, c', e', hg', _⟩ := RS.form HR3.out (by rw [baseTo_length _ _ _ _ hk]; omega)
          injection e' with e1
          injection e1 with e1
          injection e1 with e1
          omega
        have HB4 := Aside0.mk (HB3.out.setCell hgo u (p := ⟨go, k, none⟩))
        obtain ⟨⟨hd, hcell⟩, hfz⟩ := RS.cell HR3.out k hlt
        have HG := Aside0.mk hg.1
        obtain ⟨A', c', rfl, _, _⟩ := hu
        clear hb HB2 HR2 hg hgo
        go_wp2
        exact ⟨⟨k + 1, by go_num, by omega, HG, HB4⟩, by simp [intOf]; omega⟩
      · have ek : k = text.length := by omega
        have hbt : baseTo text types mode k = base text types mode := by rw [ek, baseTo_all]
        have HR' : Aside0 (RS 22 wr w.heap.size (.slice (some ⟨go, 0, none⟩) text.length cap) (base text types mode)) := by
          rw [← hbt]
          exact HR
        clear hbt
        clear ek HR
        have HR := HR'
        clear HR'
        cases pl
        · go_wp2
          go_ret
          refine ⟨_, rfl, ?_, HB.out⟩
          unfold allL
          rw [if_pos HL.out, Bool.false_and, ← all_plain]
          exact HR.out
        · go_wp2_with fail
          refine (pilesB_c mode _).mono ?_
          rintro e w2 ⟨rfl, hb⟩
          have HB2 := Aside0.mk (below_step HB.out hb)
          have HR2 := Aside0.mk (RS.below HR.out hb)
          have HP : Aside0 (allL text types mode true = (List.range text.length).map (allAt text types mode (pilesB mode))) := ⟨by unfold allL; rw [if_pos HL.out, Bool.true_and]⟩
          clear hb HB HR
          generalize pilesB mode = b at HP
          cases b
          · go_wp2
            go_ret
            refine ⟨_, rfl, ?_, HB2.out⟩
            rw [HP.out, ← all_plain]
            exact HR2.out
          · go_wp2_with fail
            refine (piles_c (SLk.below H0.out HB2.out) hm).mono ?_
            rintro e w3 ⟨u, rfl, hu, hb⟩
            have HB3 := Aside0.mk (below_step HB2.out hb)
            have HR3 := Aside0.mk (RS.below HR2.out hb)
            have hpl : (pilesL text).length = (pilesN text).length := by simp [pilesL]
            have hpb : (pilesL text).length ≤ 1000000 := by
              rw [hpl]
              unfold pilesN
              have := List.length_filter_le (pileAt text) (List.range text.length)
              rw [List.length_range] at this
              omega
            have hpg : ∀ j : Nat, j < (pilesN text).length → ∃ i : Nat, (pilesN text)[j]? = some i ∧ rd (pilesL text) (j : Int) = i ∧ i + 1 < text.length := by
              intro j hj
              refine ⟨(pilesN text)[j], List.getElem?_eq_getElem hj, ?_, ?_⟩
              · rw [rd_nat]; unfold pilesL; rw [List.getD_eq_getElem?_getD, List.getElem?_map, List.getElem?_eq_getElem hj]; rfl
              · have := (mem_piles text _).1 (List.getElem_mem hj)
                unfold pileAt at this
                simp only [Bool.and_eq_true, decide_eq_true_eq] at this
                omega
            generalize pilesL text = ps at hu hpl hpg hpb
            have HPG := Aside0.mk hpg
            have HPL := Aside0.mk hpl
            obtain ⟨D, cd, rfl, hcd, hD⟩ := hu
            have HDS := Aside0.mk (SLk.mk hD hcd)
            have hlen : (base text types mode).length = text.length := by simp [base]
            have HLEN := Aside0.mk hlen
            have HALL := Aside0.mk (all_piles text types mode)
            generalize pilesN text = pn at HPG HPL HALL
            generalize base text types mode = bs at HR3 HLEN HALL
            clear hb HB2 HR2 hpg hpl hD hlen hcd
            go_wp2_with fail
            go_loopw [52] (fun v wr => ∃ k : Nat, v = .int .i64 k ∧ k ≤ ps.length ∧ Aside0 (RS 22 wr w.heap.size (.slice (some ⟨go, 0, none⟩) text.length cap) (setPiles text (pn.take k) bs)) ∧ Aside0 (Below w.heap.size w wr) ∧ Aside0 (SL wr (.slice D ps.length cd) ps)) (fun v _ => ps.length - (intOf v).toNat)
            case atStart => exact ⟨0, rfl, Nat.zero_le _, HR3, HB3, HDS⟩
            case round =>
              rename_i wr0
              clear HDS
              obtain ⟨k, rfl, hk, HR, HB, HB'⟩ := hrel
              by_cases hlt : k < ps.length
              · obtain ⟨i, hi, hri, hit⟩ := HPG.out k (by have := HPL.out; omega)
                have hltI : (k : Int) < (ps.length : Int) := by omega
                have hkI : 0 ≤ (k : Int) := by omega
                obtain ⟨ad, cd', ea, hx⟩ := SLk.at_int HB'.out (k : Int) hkI hltI
                injection ea with e1 e2 e3
                subst e1
                clear e2 e3
                rw [hri] at hx
                simp only [Int.toNat_natCast] at hx
                obtain ⟨ad2, ea2, hx2⟩ := Kd.at_int (Kd.C_below HC0.out HB.out) ((i : Int) + 1) (by omega) (by omega)
                cases ea2
                have hit2 : (i : Int) + 1 < (text.length : Int) := by omega
                have HI := Aside0.mk hi
                rw [show ((i : Int) + 1).toNat = i + 1 by omega, Addr.add_succ'] at hx2
                clear hi hri
                go_wp2_with fail
                refine (pile_c _ _).mono ?_
                rintro e w4 ⟨rfl, hb⟩
                have HB4 := Aside0.mk (below_step HB.out hb)
                have HB4' := Aside0.mk (SLk.below HB'.out hb)
                have HR4 := Aside0.mk (RS.below HR.out hb)
                have hlb : (setPiles text (pn.take k) bs).length = text.length := by rw [setPiles_length, HLEN.out]
                obtain ⟨⟨hdA, hcA⟩, hfA⟩ := RS.cell HR4.out i (by omega)
                obtain ⟨⟨hdB, hcB⟩, hfB⟩ := RS.cell HR4.out (i + 1) (by omega)
                have hgo : w.heap.size ≤ go ∧ go < w4.heap.size := by
                  refine ⟨?_, World.block_lt_of_cell? w4 _ hcA⟩
                  obtain ⟨g, c', e', hg', _⟩ := RS.form HR4.out (by rw [hlb]; omega)
                  injection e' with e1
                  injection e1 with e1
                  injection e1 with e1
                  omega
                have hlit := SL_lit w4 3 [(pile (rd text ((i : Int) + 1))).1] (by simp)
                have hra := RS.below HR4.out (below_alloc (Below.refl _ _) (.cells #[.int .i64 (pile (rd text ((i : Int) + 1))).1] 3))
                obtain ⟨⟨hdC, hcC⟩, _⟩ := RS.cell hra i (by omega)
                have hds := SL.set_slice (SLk.below HB4'.out (below_alloc (Below.refl _ _) (.cells #[.int .i64 (pile (rd text ((i : Int) + 1))).1] 3))) hcC (.slice (some ⟨w4.heap.size, 0, none⟩) 1 1)
                have hp1 := (RS.put (RS.below HR4.out (below_alloc (Below.refl _ _) (.cells #[.int .i64 (pile (rd text ((i : Int) + 1))).1] 3))) hlb.symm i (by rw [hlb]; omega) hlit).1
                have hp2 := (RS.put hp1 (by rw [List.length_set, hlb]) (i + 1) (by rw [List.length_set, hlb]; omega) (SLk.nil _)).1
                obtain ⟨⟨hdE, hcE⟩, _⟩ := RS.cell hp1 (i + 1) (by omega)
                have HDSn := Aside0.mk (SL.set_slice hds hcE (.slice none 0 0))
                have hs : ((setPiles text (pn.take k) bs).set i [(pile (rd text ((i : Int) + 1))).1]).set (i + 1) [] = setPiles text (pn.take (k + 1)) bs := by
                  rw [take_snoc' _ _ _ HI.out, setPiles_snoc]
                  rfl
                rw [hs] at hp2
                have HP2 := Aside0.mk hp2
                have hgo2 := hgo.2
                have HBn := Aside0.mk ((below_alloc HB4.out (.cells #[.int .i64 (pile (rd text ((i : Int) + 1))).1] 3)).setCell hgo.1 (p := ⟨go, i, none⟩) (.slice (some ⟨w4.heap.size, 0, none⟩) 1 1))
                have HBm := Aside0.mk (HBn.out.setCell hgo.1 (p := ⟨go, i + 1, none⟩) (.slice none 0 0))
                have q1 := World.setCell_alloc_past (w := w4) (.cells #[.int .i64 (pile (rd text ((i : Int) + 1))).1] 3) go i (.slice (some ⟨w4.heap.size, 0, none⟩) 1 1) hgo2
                have q2 := World.setCell_alloc_past (w := w4.setCell ⟨go, i, none⟩ (.slice (some ⟨w4.heap.size, 0, none⟩) 1 1)) (.cells #[.int .i64 (pile (rd text ((i : Int) + 1))).1] 3) go (i + 1) (.slice none 0 0) (by simpa using hgo2)
                have HP2 := Aside0.mk (by have h := HP2.out; simp only [List.map_cons, List.map_nil, List.length_cons, List.length_nil] at h; rw [q1, q2] at h; exact h)
                have HBm := Aside0.mk (by have h := HBm.out; rw [q1, q2] at h; exact h)
                have HDSn := Aside0.mk (by have h := HDSn.out; rw [q1, q2] at h; exact h)
                clear q1 q2
                clear hb HB HB' HR hx hx2 hp1 hp2 hlit hs hlb hgo HBn hcC hcE hds hra
                go_wp2_with fail
                exact ⟨⟨k + 1, by go_num, by omega, HP2, HBm, HDSn⟩, by simp [intOf]; omega⟩
              · have ek : pn.take k = pn := List.take_of_length_le (by have := HPL.out; omega)
                have HR' := HR.out
                rw [ek, HALL.out] at HR'
                have HR := Aside0.mk HR'
                clear ek HR'
                go_wp2
                go_ret
                exact ⟨_, rfl, by rw [HP.out]; exact HR.out, HB.out⟩
  · have hne : ((text.length : Int) != (types.length : Int)) = true := by simp; omega
    have HA : Aside0 (allL text types mode pl = []) := ⟨by unfold allL; rw [if_neg hl]⟩
    clear hl
    go_enter Try.func43, Try.ntmps43
    go_wp2
    go_ret
    exact ⟨_, rfl, by rw [HA.out]; exact RS.nil _ _ _, Below.refl _ _⟩
end Go.Proofs.Ytfkgjoflekemaaa.CMark
/-! Contracts of mark's other functions, of the document's, and awake. -/
namespace Go.Proofs.Ytfkgjoflekemaaa.CMark2
open Go.RowKit Go.Proofs.Ytfkgjoflekemaaa.PMarkOne Go.Proofs.YtfkgjoflekemaaaW.PrintWords Go.Proofs.YtfkgjoflekemaaaW.PrintMore Go.Proofs.Ytfkgjoflekemaaa.U Go.Proofs.Ytfkgjoflekemaaa.UJoin Go.Proofs.Ytfkgjoflekemaaa.UMark Go.Proofs.Ytfkgjoflekemaaa.PureMark Go.Proofs.Ytfkgjoflekemaaa.CMark Go.Proofs.Ytfkgjoflekemaaa.CBase Go.Proofs.Ytfkgjoflekemaaa.CSlices
set_option linter.unusedVariables false
set_option linter.unusedSimpArgs false
theorem tash_c (c : Int) (w : World) : Calls Try.prog 38 #[.int .i64 c] w fun e w' => e = .returned (.bool (tash c)) ∧ Below w.heap.size w w' :=
  (mark_Tashkeel.calls c _ w (tash_eq c)).mono fun e w' h => ⟨h.1, h.2.below⟩
theorem rtash_c (c : Int) (w : World) : Calls Try.prog 40 #[.int .i64 c] w fun e w' => e = .returned (.bool (tash c)) ∧ Below w.heap.size w w' :=
  (naskhref15_Tashkeel.calls c _ w (rtash_eq c)).mono fun e w' h => ⟨h.1, h.2.below⟩
theorem rone_c (c mode : Int) (over : Bool) (w : World) : Calls Try.prog 39 #[.int .i64 c, .int .i64 mode, .bool over] w fun e w' => ∃ u, e = .returned u ∧ SL w' u (oneL c mode over) ∧ Below w.heap.size w w' := by
  obtain ⟨k, hk⟩ := (rone_ev c mode over).rounds
  exact (naskhref15_One.calls k c mode over _ w hk).mono fun e w' ⟨u, he, hr, hb⟩ => ⟨u, he, SLk.of_R hr, hb⟩
set_option maxRecDepth 100000 in
set_option maxHeartbeats 1000000 in
theorem awake_c (w : World) : Calls Try.prog 41 #[] w fun e w' => e = .returned (.bool true) ∧ Below w.heap.size w w' := by
  have z0 := SLk.alloc (SL_lit w 3 [1617, 1614] (by decide)) (.cells #[.int .i64 1, .int .i64 1] 3)
  have z1 := SL_lit (w.alloc (.cells #[.int .i64 1617, .int .i64 1614] 3)) 3 [1, 1] (by decide)
  simp only [World.size_alloc] at z1
  have Z0 := Aside0.mk z0
  have Z1 := Aside0.mk z1
  clear z0 z1
  go_enter Try.func41, Try.ntmps41
  go_wp2_with fail
  refine (all_c Z0.out Z1.out 0 true (by decide) (by decide)).mono ?_
  rw [show allL [1617, 1614] [1, 1] 0 true = [[64608], []] by decide +kernel]
  rintro e w1 ⟨u, rfl, hu, hb⟩
  have hs := hu.reads 3
  obtain ⟨ad, c0, rfl, A0, c0', hc0, hl0⟩ := SLs.at_ hs 0 (by decide)
  obtain ⟨ad', c1, e', A1, c1', hc1, hl1⟩ := SLs.at_ hs 1 (by decide)
  injection e' with e1
  injection e1 with e1
  subst e1
  have HB := Aside0.mk (below_step (below_alloc (below_alloc (Below.refl _ _) _) _) hb)
  have HL := Aside0.mk hl0
  clear hs hu hb hl0 hl1
  simp only [Addr.add_zero', Addr.add_succ'] at hc0 hc1
  go_wp2_with fail
  refine (equal_c (xs := [64608]) (ys := [64608]) (SLk.alloc HL.out _) (SL_lit w1 3 [64608] (by decide)) (by decide)).mono ?_
  rw [decide_eq_true rfl]
  rintro e w2 ⟨rfl, hb⟩
  have hc2 := pw_cell_below (below_step (below_alloc (Below.refl _ _) _) hb) hc1
  have HB2 := Aside0.mk (below_step (below_alloc HB.out _) hb)
  clear hb hc0 hc1 HB
  go_wp2_with fail
  refine (tash_c _ _).mono ?_
  rintro e w3 ⟨rfl, hb⟩
  have HB3 := Aside0.mk (below_step HB2.out hb)
  clear hb
  go_wp2
  go_ret
  exact ⟨rfl, HB3.out⟩
end Go.Proofs.Ytfkgjoflekemaaa.CMark2
/-! The document's Joins: how each code joins, out of api's list of ranges. -/
namespace Go.Proofs.Ytfkgjoflekemaaa.CJoins
open Go.RowKit Go.Proofs.Ytfkgjoflekemaaa.PGet Go.Proofs.YtfkgjoflekemaaaW.PrintWords Go.Proofs.YtfkgjoflekemaaaW.PrintMore Go.Proofs.Ytfkgjoflekemaaa.U Go.Proofs.Ytfkgjoflekemaaa.CBase
set_option linter.unusedVariables false
set_option linter.unusedSimpArgs false
def getR : List S127 → Int → Int → Int
  | [], d, _ => d
  | r :: t, d, c => if r.f0 ≤ c ∧ c ≤ r.f1 then r.f2 else getR t d c
theorem get_loop (rs : List S127) (d c : Int) (hm : rs.length ≤ 1000000) (n : Nat) : ∀ i : Nat, i + n = rs.length → Ev (fun k => naskhref06_Get.l0 k rs d c i) (getR (rs.drop i) d c) := by
  induction n with
  | zero =>
    intro i hi
    refine Ev.step (fun k => by rw [naskhref06_Get.l0]) (ev_neg (by omega) (ev_eq (ev_now _) ?_))
    rw [List.drop_of_length_le (by omega)]
    rfl
  | succ n ih =>
    intro i hi
    have hrd : rd_T127 rs i = rs[i] := by
      unfold rd_T127
      rw [Int.toNat_natCast, List.getD_eq_getElem?_getD, List.getElem?_eq_getElem (by omega)]
      rfl
    refine Ev.step (fun k => by rw [naskhref06_Get.l0]) (ev_pos (by omega) (ev_pos (by omega) ?_))
    rw [hrd, List.drop_eq_getElem_cons (l := rs) (show i < rs.length by omega), getR, w64 (by omega) (by omega)]
    have go := ih (i + 1) (by omega)
    refine ev_ite (fun h1 => ev_ite (fun h2 => ?_) (fun h2 => ?_)) (fun h1 => ?_)
    · rw [if_pos ⟨h1, h2⟩]; exact ev_now _
    · rw [if_neg (fun h => h2 h.2)]; exact go
    · rw [if_neg (fun h => h1 h.1)]; exact go
theorem get_ev (rs : List S127) (d c : Int) (hm : rs.length ≤ 1000000) : Ev (fun k => naskhref06_Get.f k rs d c) (getR rs d c) := get_loop rs d c hm rs.length 0 (by omega)

/-! ### a row of triples, laid flat -/
def flat3 (rs : List S127) : List Value := rs.flatMap fun x => [.int .i64 x.f0, .int .i64 x.f1, .int .i64 x.f2]
def chunk3 : List Value → List S127
  | .int _ a :: .int _ b :: .int _ c :: r => ⟨a, b, c⟩ :: chunk3 r
  | _ => []
theorem flat3_get (rs : List S127) : ∀ (j : Nat) (x : S127), rs[j]? = some x → ∀ (i : Nat) (u : Value), ([.int .i64 x.f0, .int .i64 x.f1, .int .i64 x.f2] : List Value)[i]? = some u → (flat3 rs)[j * 3 + i]? = some u := by
  induction rs with
  | nil => intro j x h; simp at h
  | cons r t ih =>
    intro j x h i u hu
    have hi : i < 3 := by
      have := (List.getElem?_eq_some_iff.1 hu).1
      simpa using this
    cases j with
    | zero =>
      obtain rfl := Option.some.inj h
      unfold flat3
      rw [List.flatMap_cons, List.getElem?_append_left (by simp; omega)]
      simpa using hu
    | succ j =>
      have := ih j x h i u hu
      unfold flat3 at this ⊢
      rw [List.flatMap_cons, List.getElem?_append_right (by simp; omega)]
      simp only [List.length_cons, List.length_nil]
      rw [show (j + 1) * 3 + i - (0 + 1 + 1 + 1) = j * 3 + i by omega]
      exact this
theorem C_flat3 (w : World) (rs : List S127) (t : TypeId) (hm : rs.length ≤ 1000000) : Kd.C k127 (w.alloc (.cells (flat3 rs).toArray t)) (some ⟨w.heap.size, 0, none⟩) rs.length rs := by
  refine ⟨rfl, by omega, fun _ => ⟨_, rfl, fun j p hj => ⟨_, rfl, k127_mk _ p, fun i u hu => ?_⟩⟩⟩
  rw [add_plain, World.cell?_alloc_new]
  have := flat3_get rs j p hj i u hu
  show (flat3 rs).toArray[j * 3 + i]? = some u
  simpa using this

/-! ### api's list -/
noncomputable def cellsJ : Array Value := match runF Try.prog 10 1 96 #[] (default : World) with
  | some (_, w') => match (w' : World).heap[0]? with | some (Obj.cells c _ _) => c | _ => #[]
  | none => #[]
noncomputable def rsJ : List S127 := chunk3 cellsJ.toList
theorem run96 (w : World) : runF Try.prog 10 1 96 #[] w = some (.slice (some ⟨w.heap.size, 0, none⟩) 68 68, w.alloc (.cells cellsJ 127)) := by kernel_rfl
theorem rsJ_length : rsJ.length = 68 := by kernel_rfl
theorem cellsJ_flat : cellsJ = (flat3 rsJ).toArray := by kernel_rfl
theorem ranges_c (w : World) : Calls Try.prog 96 #[] w fun e w' => e = .returned (.slice (some ⟨w.heap.size, 0, none⟩) rsJ.length 68) ∧ Kd.C k127 w' (some ⟨w.heap.size, 0, none⟩) rsJ.length rsJ ∧ Below w.heap.size w w' := by
  refine (runF_ok 10 1 96 #[] w _ _ (run96 w)).mono ?_
  rintro e W ⟨rfl, rfl⟩
  rw [rsJ_length]
  refine ⟨rfl, ?_, below_alloc (Below.refl _ _) _⟩
  have := C_flat3 w rsJ 127 (by rw [rsJ_length]; decide)
  rw [← cellsJ_flat, rsJ_length] at this
  exact this
noncomputable def jn (c : Int) : Int := getR rsJ 0 c
theorem join_c (c : Int) (w : World) : Calls Try.prog 84 #[.int .i64 c] w fun e w' => e = .returned (.int .i64 (jn c)) ∧ Below w.heap.size w w' := by
  obtain ⟨k, hk⟩ := (get_ev rsJ 0 c (by rw [rsJ_length]; decide)).rounds
  have HK := Aside0.mk hk
  clear hk
  go_enter Try.func84, Try.ntmps84
  go_wp2_with fail
  refine (ranges_c _).mono ?_
  rintro e w1 ⟨rfl, hC, hb⟩
  have HC := Aside0.mk hC
  have HB := Aside0.mk hb
  clear hC hb
  go_wp2_with fail
  refine (naskhref06_Get.calls k _ _ rsJ 0 c _ _ HC.out (by rw [rsJ_length]; decide) HK.out).mono ?_
  rintro e w2 ⟨rfl, hb⟩
  have HB2 := Aside0.mk (below_step HB.out hb.below)
  clear hb
  go_wp2
  go_ret
  exact ⟨rfl, HB2.out⟩
theorem info3 : (Try.prog.info? 3).map (fun i => (i.zero, i.size, i.bytes)) = some (some (.int .i64 0), 1, 8) := by kernel_rfl
set_option maxRecDepth 100000 in
set_option maxHeartbeats 1000000 in
theorem joins_c {v : Value} {xs : List Int} {w : World} (h : SL w v xs) (hm : xs.length ≤ 1000000) : Calls Try.prog 42 #[v] w fun e w' => ∃ u, e = .returned u ∧ SL w' u (xs.map jn) ∧ Below w.heap.size w w' := by
  have H := Aside0.mk h
  obtain ⟨A, c, rfl, _, hC⟩ := h
  have HC := Aside0.mk hC
  clear hC
  go_enter Try.func42, Try.ntmps42
  go_wp2_with fail
  go_loopw [4, 3] (fun v r wr => ∃ k : Nat, v = .int .i64 k ∧ k ≤ xs.length ∧ Aside0 (Kd.R (Kd.int .i64) 3 wr w.heap.size (fun _ => True) r ((xs.take k).map jn)) ∧ Aside0 (Below w.heap.size w wr)) (fun v _ _ => xs.length - (intOf v).toNat)
  case atStart => exact ⟨0, rfl, Nat.zero_le _, ⟨Kd.R_nil _ _ _ _ _⟩, ⟨Below.refl _ _⟩⟩
  case round =>
    obtain ⟨k, rfl, hk, HR, HB⟩ := hrel
    by_cases hlt : k < xs.length
    · have hltI : (k : Int) < (xs.length : Int) := by omega
      have hkI : 0 ≤ (k : Int) := by omega
      obtain ⟨ad, ea, hx⟩ := Kd.at_int (Kd.C_below HC.out HB.out) (k : Int) hkI hltI
      cases ea
      simp only [Int.toNat_natCast] at hx
      have HS : Aside0 ((xs.take (k + 1)).map jn = (xs.take k).map jn ++ [jn (rd xs k)]) := ⟨by
        rw [List.take_succ_eq_append_getElem hlt, List.map_append, rd_get hlt]; rfl⟩
      have hl : ((xs.take k).map jn).length ≤ 1000000 := by rw [List.length_map, List.length_take]; omega
      generalize (xs.take k).map jn = out at HR HS hl
      go_wp2_with fail
      refine (join_c _ _).mono ?_
      generalize jn (rd xs k) = y at HS
      rintro e w2 ⟨rfl, hb⟩
      have HB2 := Aside0.mk (below_step HB.out hb)
      have HR2 := Aside0.mk (Kd.R_below HR.out hb)
      clear hb HB HR hx
      go_wp2_with (first | (at_builtin; refine Kd.R_append (Kd.int .i64) (w0 := w) w.heap.size rfl (.tmp 11) (.tmp 17) 22 3 (.int .i64 0) 8 rfl Try.underlying22 info3 rfl (by decide) (by omega) _ _ y [.int .i64 y] (fun _ => True) (fun _ => False) rfl rfl rfl (fun _ h => h.elim) (fun _ _ => trivial) HR2.out HB2.out HB2.out.size (by omega) ?_; intro v1 w1 hv1 hb1 hg1 hn1; have HV1 := Aside0.mk hv1; have HB1 := Aside0.mk hb1; clear hv1 hb1 hg1 hn1))
      exact ⟨⟨k + 1, by go_num, by omega, ⟨by rw [HS.out]; exact HV1.out⟩, HB1⟩, by simp [intOf]; omega⟩
    · go_wp2
      go_ret
      refine ⟨_, rfl, ?_, HB.out⟩
      have := SLk.of_R HR.out
      rwa [List.take_of_length_le (by omega)] at this
end Go.Proofs.Ytfkgjoflekemaaa.CJoins
