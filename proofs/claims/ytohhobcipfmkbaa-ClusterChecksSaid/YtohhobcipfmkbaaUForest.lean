/- Plain law of sets as a list of parents: to find, and to join. No Go and no memory in it. -/
import Derived.Test.YtohhobcipfmkbaaUFinEvA
namespace Go.Proofs.Ytohhobcipfmkbaa.UFinest
set_option linter.unusedVariables false
set_option linter.unusedSimpArgs false
/-- labels: each place's is no greater than it, and stands for itself -/
structure LabOk (N : Nat) (r : Lab) : Prop where
  le : ∀ i, i < N → r i ≤ i
  rr : ∀ i, i < N → r (r i) = r i
/-- the list of parents of labels -/
def PF (N : Nat) (r : Lab) (p : List Int) : Prop := ∀ i, i < N → ∃ q : Nat, p.getD i 0 = (q : Int) ∧ q ≤ i ∧ r q = r i ∧ (q = i → r i = i)
theorem getD_set_self (p : List Int) (i : Nat) (x : Int) (h : i < p.length) : (p.set i x).getD i 0 = x := by
  rw [List.getD_eq_getElem?_getD, List.getElem?_set_self h]; rfl
theorem getD_set_ne (p : List Int) (i j : Nat) (x : Int) (h : j ≠ i) : (p.set i x).getD j 0 = p.getD j 0 := by
  rw [List.getD_eq_getElem?_getD, List.getElem?_set_ne (Ne.symm h), ← List.getD_eq_getElem?_getD]
/-- half of the way: the parent's parent -/
theorem PF.half {N : Nat} {r : Lab} {p : List Int} (h : PF N r p) (hl : p.length = N) {i q q2 : Nat} (hi : i < N) (h1 : p.getD i 0 = (q : Int)) (h2 : p.getD q 0 = (q2 : Int)) : PF N r (p.set i (q2 : Int)) := by
  intro j hj
  by_cases e : j = i
  · subst e
    obtain ⟨a, a1, a2, a3, a4⟩ := h j hi
    have ea : a = q := by omega
    subst ea
    obtain ⟨b, b1, b2, b3, b4⟩ := h a (by omega)
    have eb : b = q2 := by omega
    subst eb
    exact ⟨b, getD_set_self p j _ (by omega), by omega, b3.trans a3, fun e => a4 (by omega)⟩
  · obtain ⟨a, a1, a2, a3, a4⟩ := h j hj
    exact ⟨a, (getD_set_ne p i j _ e).trans a1, a2, a3, a4⟩
theorem LabOk.merge {N : Nat} {r : Lab} (h : LabOk N r) (a b : Nat) (ha : a < N) (hb : b < N) : LabOk N (merge r a b) := by
  have h1 := h.le a ha
  have h2 := h.le b hb
  have h3 := h.rr a ha
  have h4 := h.rr b hb
  refine ⟨fun i hi => Nat.le_trans (merge_le _ _ _ _) (h.le i hi), fun i hi => ?_⟩
  have h5 := h.rr i hi
  unfold UFinest.merge
  by_cases e : r i = max (r a) (r b)
  · rw [if_pos e]
    rcases Nat.le_total (r a) (r b) with hab | hab
    · rw [Nat.min_eq_left hab, Nat.max_eq_right hab, h3]; split <;> omega
    · rw [Nat.min_eq_right hab, Nat.max_eq_left hab, h4]; split <;> omega
  · rw [if_neg e, h5, if_neg e]
theorem PF.join {N : Nat} {r : Lab} {p : List Int} (h : PF N r p) (ho : LabOk N r) (hl : p.length = N) (a b : Nat) (ha : a < N) (hb : b < N) (hne : r a ≠ r b) : PF N (merge r a b) (p.set (max (r a) (r b)) ((min (r a) (r b) : Nat) : Int)) := by
  have h1 := ho.le a ha
  have h2 := ho.le b hb
  have h3 := ho.rr a ha
  have h4 := ho.rr b hb
  have hM : r (max (r a) (r b)) = max (r a) (r b) := by
    rcases Nat.le_total (r a) (r b) with hab | hab
    · rw [Nat.max_eq_right hab]; exact h4
    · rw [Nat.max_eq_left hab]; exact h3
  have hm : r (min (r a) (r b)) = min (r a) (r b) := by
    rcases Nat.le_total (r a) (r b) with hab | hab
    · rw [Nat.min_eq_left hab]; exact h3
    · rw [Nat.min_eq_right hab]; exact h4
  intro j hj
  by_cases e : j = max (r a) (r b)
  · refine ⟨min (r a) (r b), ?_, by omega, ?_, fun h => by omega⟩
    · rw [e]; exact getD_set_self p _ _ (by omega)
    · rw [e]
      unfold UFinest.merge
      rw [hm, hM, if_pos rfl, if_neg (by omega)]
  · obtain ⟨q, q1, q2, q3, q4⟩ := h j hj
    refine ⟨q, (getD_set_ne p _ _ _ e).trans q1, q2, merge_keep r a b q j q3, fun eq => ?_⟩
    have := q4 eq
    unfold UFinest.merge
    rw [this, if_neg e]
theorem PF.root {N : Nat} {r : Lab} {p : List Int} (h : PF N r p) {i : Nat} (hi : i < N) (he : p.getD i 0 = (i : Int)) : r i = i := by
  obtain ⟨q, q1, q2, q3, q4⟩ := h i hi
  exact q4 (by omega)
theorem PF.up {N : Nat} {r : Lab} {p : List Int} (h : PF N r p) {i : Nat} (hi : i < N) (he : p.getD i 0 ≠ (i : Int)) : ∃ q : Nat, p.getD i 0 = (q : Int) ∧ q < i ∧ r q = r i := by
  obtain ⟨q, q1, q2, q3, q4⟩ := h i hi
  exact ⟨q, q1, by rcases Nat.lt_or_ge q i with h | h; exact h; exact absurd (by rw [q1]; omega) he, q3⟩
theorem labOk_id (N : Nat) : LabOk N idL := ⟨fun _ _ => Nat.le_refl _, fun _ _ => rfl⟩
theorem PF.id {N : Nat} {p : List Int} (h : ∀ i, i < N → p.getD i 0 = (i : Int)) : PF N idL p := fun i hi => ⟨i, h i hi, Nat.le_refl _, rfl, fun _ => rfl⟩
theorem two_false {r : Lab} {a b : Nat} (h : r a = r b) : two r a b = false := by unfold two; rw [decide_eq_false_iff_not]; exact fun h' => h' h
theorem two_true {r : Lab} {a b : Nat} (h : r a ≠ r b) : two r a b = true := by unfold two; exact decide_eq_true h
end Go.Proofs.Ytohhobcipfmkbaa.UFinest
