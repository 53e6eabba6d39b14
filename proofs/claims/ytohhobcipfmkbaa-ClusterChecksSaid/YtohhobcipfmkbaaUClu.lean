/- Plain law of the clusters: labels in the order in which they are met first, each with its hulls. No Go and no memory in it. -/
import Derived.Test.YtohhobcipfmkbaaUForest
import Derived.Test.YtohhobcipfmkbaaUFinDoc
namespace Go.Proofs.Ytohhobcipfmkbaa.UFinest
set_option linter.unusedVariables false
set_option linter.unusedSimpArgs false
def firsts (r : Lab) : Nat → List Nat
  | 0 => []
  | k + 1 => if r k ∈ firsts r k then firsts r k else firsts r k ++ [r k]
theorem mem_firsts (r : Lab) (k v : Nat) : v ∈ firsts r k ↔ ∃ i, i < k ∧ r i = v := by
  induction k with
  | zero => simp [firsts]
  | succ k ih =>
    unfold firsts
    by_cases h : r k ∈ firsts r k
    · rw [if_pos h, ih]
      constructor
      · rintro ⟨i, hi, e⟩; exact ⟨i, by omega, e⟩
      · rintro ⟨i, hi, e⟩
        rcases Nat.lt_or_ge i k with h' | h'
        · exact ⟨i, h', e⟩
        · obtain rfl : i = k := by omega
          exact ih.1 (e ▸ h)
    · rw [if_neg h, List.mem_append, ih, List.mem_singleton]
      constructor
      · rintro (⟨i, hi, e⟩ | e)
        · exact ⟨i, by omega, e⟩
        · exact ⟨k, by omega, e.symm⟩
      · rintro ⟨i, hi, e⟩
        rcases Nat.lt_or_ge i k with h' | h'
        · exact .inl ⟨i, h', e⟩
        · obtain rfl : i = k := by omega
          exact .inr e.symm
theorem firsts_nodup (r : Lab) (k : Nat) : (firsts r k).Nodup := by
  induction k with
  | zero => exact List.nodup_nil
  | succ k ih =>
    unfold firsts
    split
    · exact ih
    · rename_i h
      rw [List.nodup_append]
      exact ⟨ih, by simp, fun a ha b hb e => h (by rw [List.mem_singleton] at hb; rw [← hb, ← e]; exact ha)⟩
theorem firsts_len (r : Lab) (k : Nat) : (firsts r k).length ≤ k := by
  induction k with
  | zero => exact Nat.le_refl _
  | succ k ih =>
    unfold firsts
    split
    · omega
    · simp; exact ih
theorem map_set_idx {β : Type} (l : List Nat) (hn : l.Nodup) (v : Nat) (hv : v ∈ l) (f f' : Nat → β) (h : ∀ x ∈ l, x ≠ v → f' x = f x) : l.map f' = (l.map f).set (l.idxOf v) (f' v) := by
  apply List.ext_getElem (by simp)
  intro i h1 h2
  have hi : i < l.length := by simpa using h1
  rw [List.getElem_set]
  by_cases e : l.idxOf v = i
  · rw [if_pos e]
    subst e
    rw [List.getElem_map, List.getElem_idxOf]
  · rw [if_neg e, List.getElem_map, List.getElem_map]
    refine h _ (List.getElem_mem hi) fun e' => e ?_
    rw [← e']
    exact hn.idxOf_getElem i hi
/-- the clusters behind k places of what goes in -/
def clu1 (r : Lab) (m k : Nat) (v : Nat) : Clu := (hullL r 0 v k, (m, 0))
def out2 (r : Lab) (n m : Nat) (v t : Nat) : Nat × Nat := if (hullL r n v t).2 = 0 then (m, 0) else hullL r n v t
def clu2 (r : Lab) (n m t : Nat) (v : Nat) : Clu := (hullL r 0 v n, out2 r n m v t)
theorem hull_far {r : Lab} {lo v k : Nat} (h : r (lo + k) ≠ v) : hullL r lo v (k + 1) = hullL r lo v k := by
  show (if r (lo + k) = v then _ else _) = _
  rw [if_neg h]
theorem hull_met {r : Lab} {k v : Nat} (h : v ∈ firsts r k) : (hullL r 0 v k).1 < (hullL r 0 v k).2 := by
  obtain ⟨i, hi, e⟩ := (mem_firsts r k v).1 h
  rcases hullL_is r 0 v k with ⟨h1, h2⟩ | h2
  · exact absurd (by rw [Nat.zero_add]; exact e) (h2 i hi)
  · exact h2.1
theorem clu1_there {r : Lab} {m k : Nat} (h : r k ∈ firsts r k) : (firsts r (k + 1)).map (clu1 r m (k + 1)) = ((firsts r k).map (clu1 r m k)).set ((firsts r k).idxOf (r k)) (((hullL r 0 (r k) k).1, k + 1), (m, 0)) := by
  have e : firsts r (k + 1) = firsts r k := by rw [firsts, if_pos h]
  rw [e, map_set_idx _ (firsts_nodup r k) _ h (clu1 r m k) (clu1 r m (k + 1))]
  · congr 1
    unfold clu1
    have hm := hull_met h
    show ((if r (0 + k) = r k then _ else _), (m, 0)) = _
    rw [Nat.zero_add, if_pos rfl, if_neg (by omega)]
  · intro x hx hne
    unfold clu1
    rw [hull_far (by rw [Nat.zero_add]; exact fun e => hne e.symm)]
theorem clu1_new {r : Lab} {m k : Nat} (h : r k ∉ firsts r k) : (firsts r (k + 1)).map (clu1 r m (k + 1)) = (firsts r k).map (clu1 r m k) ++ [((k, k + 1), (m, 0))] := by
  have e : firsts r (k + 1) = firsts r k ++ [r k] := by rw [firsts, if_neg h]
  rw [e, List.map_append]
  congr 1
  · apply List.map_congr_left
    intro x hx
    unfold clu1
    rw [hull_far (by rw [Nat.zero_add]; exact fun e => h (e ▸ hx))]
  · unfold clu1
    have h0 : hullL r 0 (r k) k = (0, 0) := by
      rcases hullL_is r 0 (r k) k with ⟨h1, _⟩ | h2
      · exact h1
      · exact absurd ((mem_firsts r k _).2 ⟨(hullL r 0 (r k) k).1, by omega, by have := h2.2.2.1; rwa [Nat.zero_add] at this⟩) h
    rw [List.map_singleton]
    show [((if r (0 + k) = r k then _ else _), (m, 0))] = _
    rw [Nat.zero_add, if_pos rfl, h0, if_pos rfl]
theorem clu2_start (r : Lab) (n m : Nat) : (firsts r n).map (clu1 r m n) = (firsts r n).map (clu2 r n m 0) := List.map_congr_left fun v _ => by
  unfold clu1 clu2 out2
  rw [if_pos (by rfl)]
theorem clu2_step {r : Lab} {n m t : Nat} (ht : t < m) (h : r (n + t) ∈ firsts r n) : (firsts r n).map (clu2 r n m (t + 1)) = ((firsts r n).map (clu2 r n m t)).set ((firsts r n).idxOf (r (n + t))) (hullL r 0 (r (n + t)) n, (min (out2 r n m (r (n + t)) t).1 t, t + 1)) := by
  rw [map_set_idx _ (firsts_nodup r n) _ h (clu2 r n m t) (clu2 r n m (t + 1))]
  · congr 1
    unfold clu2 out2
    have e : hullL r n (r (n + t)) (t + 1) = ((if (hullL r n (r (n + t)) t).2 = 0 then t else (hullL r n (r (n + t)) t).1), t + 1) := by
      show (if r (n + t) = r (n + t) then _ else _) = _
      rw [if_pos rfl]
    rw [e, if_neg (by simp)]
    congr 1
    congr 1
    by_cases hz : (hullL r n (r (n + t)) t).2 = 0
    · rw [if_pos hz, if_pos hz]; dsimp only; omega
    · rw [if_neg hz, if_neg hz]
      rcases hullL_is r n (r (n + t)) t with ⟨h1, _⟩ | h2
      · rw [h1] at hz; exact absurd rfl hz
      · omega
  · intro x hx hne
    unfold clu2 out2
    rw [hull_far (fun e => hne e.symm)]
theorem firsts_cut {r : Lab} {n : Nat} (hb : Between (fun x y => r x = r y) 0 n) (k : Nat) (hk : k < n) : r k ∈ firsts r k ↔ ¬ (k = 0 ∨ r k ≠ r (k - 1)) := by
  rw [mem_firsts]
  constructor
  · rintro ⟨i, hi, e⟩ (h | h)
    · omega
    · exact h (e.symm.trans (hb i (k - 1) k (Nat.zero_le _) (by omega) (by omega) hk e))
  · intro h
    exact ⟨k - 1, by omega, (Decidable.byContradiction fun e => h (.inr (fun e' => e e'.symm)))⟩
theorem cluTo_firsts {r : Lab} {n m : Nat} (hb : Between (fun x y => r x = r y) 0 n) (k : Nat) (hk : k ≤ n) : cluTo n m r k = (firsts r k).map fun v => (hullL r 0 v n, hullL r n v m) := by
  induction k with
  | zero => rfl
  | succ k ih =>
    rw [cluTo_add, ih (by omega), firsts]
    have hc := firsts_cut hb k (by omega)
    by_cases h : k = 0 ∨ r k ≠ r (k - 1)
    · rw [if_pos h, if_neg (fun h' => hc.1 h' h), List.map_append]; rfl
    · rw [if_neg h, if_pos (hc.2 h), List.append_nil]
theorem clu2_end {r : Lab} {n m : Nat} (hb : Between (fun x y => r x = r y) 0 n) (ho : ∀ j, j < n → ∃ i, i < m ∧ r (n + i) = r j) : (firsts r n).map (clu2 r n m m) = cluTo n m r n := by
  rw [cluTo_firsts hb n (Nat.le_refl _)]
  apply List.map_congr_left
  intro v hv
  obtain ⟨j, hj, e⟩ := (mem_firsts r n v).1 hv
  obtain ⟨i, hi, e2⟩ := ho j hj
  unfold clu2 out2
  rw [if_neg]
  rcases hullL_is r n v m with ⟨_, h2⟩ | h2
  · exact absurd (e2.trans e) (h2 i hi)
  · omega
/-- each place of what goes in belongs to one of what comes out -/
theorem outs_met {n m : Nat} {l : List Lk} {R : Nat → Nat → Prop} (hR : Closed n m l R) (hw : ∀ x ∈ l, x.a < x.b ∧ x.c < x.d) (hm : ∀ x ∈ l, x.d ≤ m) (hf : firstF l n < n) (j : Nat) (hj : j < n) : ∃ i, i < m ∧ R (n + i) j := by
  have linked : ∀ j, linkedB l j = true → ∃ i, i < m ∧ R (n + i) j := by
    intro j h
    unfold linkedB at h
    obtain ⟨x, hx, h⟩ := List.any_eq_true.1 h
    simp only [Bool.and_eq_true, decide_eq_true_eq] at h
    have := hw x hx; have := hm x hx
    exact ⟨x.c, by omega, hR.eqv.trans _ _ _ (hR.eqv.symm _ _ (hR.both x hx)) (hR.ins x hx j h.1 h.2)⟩
  have hfirst := linked _ (first_linked l n hf)
  have behind : ∀ d, firstF l n + d < n → ∃ i, i < m ∧ R (n + i) (firstF l n + d) := by
    intro d
    induction d with
    | zero => intro _; exact hfirst
    | succ d ih =>
      intro h
      cases e : linkedB l (firstF l n + (d + 1)) with
      | true => exact linked _ e
      | false =>
        obtain ⟨i, hi, h'⟩ := ih (by omega)
        exact ⟨i, hi, hR.eqv.trans _ _ _ h' (hR.stray (firstF l n + (d + 1)) (by omega) h e)⟩
  have ahead : ∀ d, d ≤ firstF l n → ∃ i, i < m ∧ R (n + i) (firstF l n - d) := by
    intro d
    induction d with
    | zero => intro _; exact hfirst
    | succ d ih =>
      intro h
      obtain ⟨i, hi, h'⟩ := ih (by omega)
      have := hR.ahead (firstF l n - (d + 1)) (by omega) hf
      rw [show firstF l n - (d + 1) + 1 = firstF l n - d by omega] at this
      exact ⟨i, hi, hR.eqv.trans _ _ _ h' (hR.eqv.symm _ _ this)⟩
  rcases Nat.lt_or_ge j (firstF l n) with h | h
  · have := ahead (firstF l n - j) (by omega)
    rwa [show firstF l n - (firstF l n - j) = j by omega] at this
  · have := behind (j - firstF l n) (by omega)
    rwa [show firstF l n + (j - firstF l n) = j by omega] at this
/-- each place of what comes out belongs to one of what goes in, if all are in a link -/
theorem ins_met {n m : Nat} {l : List Lk} {R : Nat → Nat → Prop} (hR : Closed n m l R) (hb : ∀ x ∈ l, x.a < x.b ∧ x.b ≤ n) (hc : ∀ i, i < m → ∃ x ∈ l, x.c ≤ i ∧ i < x.d) (i : Nat) (hi : i < m) : ∃ j, j < n ∧ R j (n + i) := by
  obtain ⟨x, hx, h1, h2⟩ := hc i hi
  have := hb x hx
  exact ⟨x.a, by omega, hR.eqv.trans _ _ _ (hR.both x hx) (hR.outs x hx i h1 h2)⟩
end Go.Proofs.Ytohhobcipfmkbaa.UFinest
