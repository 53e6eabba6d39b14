/- The document's finest map: what its links join, its fixpoint, and the clusters of labels. -/
import Derived.Test.YtohhobcipfmkbaaUFinEvA
namespace Go.Proofs.Ytohhobcipfmkbaa.UFinest
set_option linter.unusedVariables false
set_option linter.unusedSimpArgs false
/-- labels that join what must be joined, and no more -/
structure FinOk (n m : Nat) (l : List Lk) (L : Lab) : Prop where
  sound : ∀ R, Closed n m l R → Sound R L
  closed : Closed n m l (fun x y => L x = L y)
theorem FinOk.same {n m : Nat} {l : List Lk} {L L' : Lab} (h : FinOk n m l L) (h' : FinOk n m l L') (x y : Nat) : L x = L y ↔ L' x = L' y := same_sets h.sound h'.sound h.closed h'.closed x y
def strayL (l : List Lk) (k : Nat) : List Lk := (List.range k).filterMap fun i => if 1 ≤ i ∧ linkedB l i = false then some ⟨i - 1, i + 1, 0, 0⟩ else none
def aheadL (l : List Lk) (n : Nat) : List Lk := if 0 < firstF l n ∧ firstF l n < n then [⟨0, firstF l n + 1, 0, 0⟩] else []
def allL (n : Nat) (l : List Lk) : List Lk := l ++ strayL l n ++ aheadL l n
theorem strayL_add (l : List Lk) (k : Nat) : strayL l (k + 1) = strayL l k ++ (if 1 ≤ k ∧ linkedB l k = false then [⟨k - 1, k + 1, 0, 0⟩] else []) := by
  unfold strayL
  rw [List.range_succ, List.filterMap_append]
  by_cases h : 1 ≤ k ∧ linkedB l k = false
  · simp [h]
  · rw [if_neg h]; simp [List.filterMap_cons, h]
theorem mem_strayL {l : List Lk} {k : Nat} {x : Lk} (h : x ∈ strayL l k) : ∃ i, 1 ≤ i ∧ i < k ∧ linkedB l i = false ∧ x = ⟨i - 1, i + 1, 0, 0⟩ := by
  unfold strayL at h
  obtain ⟨i, h1, h2⟩ := List.mem_filterMap.1 h
  by_cases hc : 1 ≤ i ∧ linkedB l i = false
  · rw [if_pos hc] at h2
    exact ⟨i, hc.1, List.mem_range.1 h1, hc.2, (Option.some.inj h2).symm⟩
  · rw [if_neg hc] at h2; cases h2
theorem strayL_mem {l : List Lk} {k i : Nat} (h1 : 1 ≤ i) (h2 : i < k) (h3 : linkedB l i = false) : (⟨i - 1, i + 1, 0, 0⟩ : Lk) ∈ strayL l k := List.mem_filterMap.2 ⟨i, List.mem_range.2 h2, by rw [if_pos ⟨h1, h3⟩]⟩
theorem mem_aheadL {l : List Lk} {n : Nat} {x : Lk} (h : x ∈ aheadL l n) : 0 < firstF l n ∧ firstF l n < n ∧ x = ⟨0, firstF l n + 1, 0, 0⟩ := by
  unfold aheadL at h
  by_cases hc : 0 < firstF l n ∧ firstF l n < n
  · rw [if_pos hc] at h; exact ⟨hc.1, hc.2, List.mem_singleton.1 h⟩
  · rw [if_neg hc] at h; cases h
theorem ahead_all {n m : Nat} {l : List Lk} {R : Nat → Nat → Prop} (hR : Closed n m l R) (hf : firstF l n < n) (i : Nat) : i ≤ firstF l n → R 0 i := by
  induction i with
  | zero => intro _; exact hR.eqv.refl 0
  | succ i ih => intro h; exact hR.eqv.trans _ _ _ (ih (by omega)) (hR.ahead i (by omega) hf)
theorem all_in {n m : Nat} {l : List Lk} (hw : ∀ x ∈ l, LkIn n m x) : ∀ x ∈ allL n l, LkIn n m x := by
  intro x hx
  unfold allL at hx
  rcases List.mem_append.1 hx with hx | hx
  · rcases List.mem_append.1 hx with hx | hx
    · exact hw x hx
    · obtain ⟨i, h1, h2, h3, rfl⟩ := mem_strayL hx
      exact ⟨by dsimp only; omega, by dsimp only; omega, fun h => absurd h (Nat.lt_irrefl 0)⟩
  · obtain ⟨h1, h2, rfl⟩ := mem_aheadL hx
    exact ⟨by dsimp only; omega, by dsimp only; omega, fun h => absurd h (Nat.lt_irrefl 0)⟩
theorem all_ok {n m : Nat} {l : List Lk} {R : Nat → Nat → Prop} (hR : Closed n m l R) : ∀ x ∈ allL n l, LkOk n m R x := by
  intro x hx
  unfold allL at hx
  rcases List.mem_append.1 hx with hx | hx
  · rcases List.mem_append.1 hx with hx | hx
    · exact ⟨hR.ins x hx, hR.outs x hx, fun _ => hR.both x hx⟩
    · obtain ⟨i, h1, h2, h3, rfl⟩ := mem_strayL hx
      refine ⟨?_, fun j _ h => absurd h (Nat.not_lt_zero j), fun h => absurd h (Nat.lt_irrefl 0)⟩
      intro j hj1 hj2
      dsimp only at hj1 hj2 ⊢
      by_cases hj : j = i
      · rw [hj]; exact hR.stray i (by omega) h2 h3
      · rw [show j = i - 1 by omega]; exact hR.eqv.refl _
  · obtain ⟨h1, h2, rfl⟩ := mem_aheadL hx
    refine ⟨?_, fun j _ h => absurd h (Nat.not_lt_zero j), fun h => absurd h (Nat.lt_irrefl 0)⟩
    intro j hj1 hj2
    dsimp only at hj1 hj2 ⊢
    exact ahead_all hR h2 j (by omega)
theorem turn_step {n m : Nat} {l : List Lk} (hw : ∀ x ∈ l, LkIn n m x) {L : Lab} (h : ∀ R, Closed n m l R → Sound R L) : ∀ R, Closed n m l R → Sound R (turnL n m (allL n l) L).1 :=
  fun R hR => sound_turnL hR.eqv (fun i j k _ => hR.conv1 i j k) (fun i j k h1 h2 h3 h4 => hR.conv2 i j k h1 h2 h3 h4) (all_ok hR) (all_in hw) (h R hR)
theorem turn_last {n m : Nat} {l : List Lk} (hw : ∀ x ∈ l, LkIn n m x) (hw2 : ∀ x ∈ l, x.c < x.d) {L : Lab} (h : ∀ R, Closed n m l R → Sound R L) (hf : (turnL n m (allL n l) L).2 = false) : FinOk n m l L := by
  obtain ⟨h1, h2, h3, h4⟩ := turnL_false hf
  have mem1 : ∀ x ∈ l, x ∈ allL n l := fun x hx => List.mem_append_left _ (List.mem_append_left _ hx)
  have hst : ∀ i, 0 < i → i < n → linkedB l i = false → L (i - 1) = L i := by
    intro i h0 h1 h3
    exact (h2 _ (List.mem_append_left _ (List.mem_append_right _ (strayL_mem h0 h1 h3)))).1 i (by dsimp only; omega) (by dsimp only; omega)
  refine ⟨h, ⟨⟨fun _ => rfl, fun _ _ h => h.symm, fun _ _ _ h h' => h.trans h'⟩, fun x hx => (h2 x (mem1 x hx)).1, fun x hx => ((h2 x (mem1 x hx)).2 (hw2 x hx) (hw x hx).a).1, fun x hx => ((h2 x (mem1 x hx)).2 (hw2 x hx) (hw x hx).a).2, hst, ?_, ?_, ?_⟩⟩
  · intro i hi hn
    by_cases hi1 : i + 1 = firstF l n
    · have hm : (⟨0, firstF l n + 1, 0, 0⟩ : Lk) ∈ allL n l := List.mem_append_right _ (by unfold aheadL; rw [if_pos ⟨by omega, hn⟩]; exact List.mem_singleton.2 rfl)
      have := (h2 _ hm).1
      exact (this i (by dsimp only; omega) (by dsimp only; omega)).symm.trans (this (i + 1) (by dsimp only; omega) (by dsimp only; omega))
    · exact hst (i + 1) (by omega) (by omega) (first_least l n (i + 1) (by omega) (first_le l n))
  · exact fun i j k h1 h2 h4 h5 => h3 i j k (Nat.zero_le _) h1 h2 h4 h5
  · exact fun i j k h0 h1 h2 h5 h6 => h4 i j k h0 h1 h2 h5 h6
/-! ### the clusters of labels -/
abbrev Clu := (Nat × Nat) × (Nat × Nat)
def cluTo (n m : Nat) (L : Lab) (k : Nat) : List Clu := (List.range k).filterMap fun i => if i = 0 ∨ L i ≠ L (i - 1) then some (hullL L 0 (L i) n, hullL L n (L i) m) else none
theorem cluTo_add (n m : Nat) (L : Lab) (k : Nat) : cluTo n m L (k + 1) = cluTo n m L k ++ (if k = 0 ∨ L k ≠ L (k - 1) then [(hullL L 0 (L k) n, hullL L n (L k) m)] else []) := by
  unfold cluTo
  rw [List.range_succ, List.filterMap_append]
  by_cases h : k = 0 ∨ L k ≠ L (k - 1)
  · rw [if_pos h]; simp [List.filterMap_cons, h]
  · rw [if_neg h]; simp [List.filterMap_cons, h]
theorem hullL_same {r q : Lab} (h : ∀ x y, r x = r y ↔ q x = q y) (lo i : Nat) (k : Nat) : hullL r lo (r i) k = hullL q lo (q i) k := by
  induction k with
  | zero => rfl
  | succ k ih =>
    unfold hullL
    rw [ih]
    by_cases hc : r (lo + k) = r i
    · rw [if_pos hc, if_pos ((h _ _).1 hc)]
    · rw [if_neg hc, if_neg (fun h' => hc ((h _ _).2 h'))]
theorem cluTo_same {r q : Lab} (h : ∀ x y, r x = r y ↔ q x = q y) (n m k : Nat) : cluTo n m r k = cluTo n m q k := by
  unfold cluTo
  congr 1
  funext i
  rw [hullL_same h 0 i n, hullL_same h n i m]
  by_cases hc : i = 0 ∨ r i ≠ r (i - 1)
  · rw [if_pos hc, if_pos (hc.imp_right fun h' => fun e => h' ((h _ _).2 e))]
  · rw [if_neg hc, if_neg (fun h' => hc (h'.imp_right fun h2 => fun e => h2 ((h _ _).1 e)))]
end Go.Proofs.Ytohhobcipfmkbaa.UFinest
