/- Merged of own texts: UFinEvA, UForest, UFinDoc, UClu. -/
import Derived.Test.YtohhobcipfmkbaaCFinQ
import Derived.Test.YtohhobcipfmkbaaUFinest
import Derived.Test.YtohhobcipfmkbaaUBase
/-! Merged of own texts: UFinEv, UFinEv2, UFinEv3. -/
/-! The document's reckoning of the finest map, as the printed functions do it, is the plain law's. -/
namespace Go.Proofs.Ytohhobcipfmkbaa.UFinEv
open Go.RowKit Go.Proofs.YtohhobcipfmkbaaW.PrintWords Go.Proofs.Ytohhobcipfmkbaa.U Go.Proofs.Ytohhobcipfmkbaa.PClusterFinest Go.Proofs.Ytohhobcipfmkbaa.UFinest
set_option linter.unusedVariables false
set_option linter.unusedSimpArgs false
/-- a row holds the numbers of a side -/
def Rep (L : Lab) (lo : Nat) (l : List Int) : Prop := ∀ i, i < l.length → l.getD i 0 = ((L (lo + i) : Nat) : Int)
theorem rep_rd {L : Lab} {lo : Nat} {l : List Int} (h : Rep L lo l) (i : Nat) (hi : i < l.length) : rd l (i : Int) = ((L (lo + i) : Nat) : Int) := by
  rw [rd_nat]; exact h i hi
theorem mn_nat (a b : Nat) : mn (a : Int) (b : Int) = ((min a b : Nat) : Int) := by unfold mn; split <;> omega
/-! ### a turn -/
def lkOf (x : S45) : Lk := ⟨x.f0.f0.toNat, x.f0.f1.toNat, x.f1.f0.toNat, x.f1.f1.toNat⟩
structure NonNeg (x : S45) : Prop where
  a : 0 ≤ x.f0.f0
  b : 0 ≤ x.f0.f1
  c : 0 ≤ x.f1.f0
  d : 0 ≤ x.f1.f1
theorem right_f (a b : Int) (h : 0 ≤ a) : naskhref03_Right.f a b = some (decide (a < b)) := by unfold naskhref03_Right.f; rw [if_pos (by omega)]
theorem rep_out {L : Lab} {lo c d v : Nat} {l : List Int} (h : Rep L lo l) (hd : d ≤ lo ∨ lo + l.length ≤ c) : Rep (setL L c d v) lo l := by
  intro i hi
  rw [h i hi]
  unfold setL
  rw [if_neg (by omega)]
theorem rd45 {l : List S45} {i : Nat} (h : i < l.length) : rd_T45 l (i : Int) = l[i] := by
  unfold rd_T45
  rw [Int.toNat_natCast, List.getD_eq_getElem?_getD, List.getElem?_eq_getElem h]
  rfl
theorem foldl_take {α β : Type} (f : β → α → β) (s : β) (l : List α) (i : Nat) (h : i < l.length) : (l.take (i + 1)).foldl f s = f ((l.take i).foldl f s) l[i] := by
  rw [List.take_succ_eq_append_getElem h, List.foldl_append]; rfl
theorem wholeTo_out (L : Lab) (lo len : Nat) (x : Nat) (hx : x < lo ∨ lo + len ≤ x) (k : Nat) (hk : k ≤ len) : (wholeTo L lo len k).1 x = L x := by
  induction k with
  | zero => rfl
  | succ k ih =>
    have ih' := ih (by omega)
    unfold wholeTo
    dsimp only
    generalize wholeTo L lo len k = q at ih' ⊢
    have hs : (hullL q.1 lo (q.1 (lo + k)) len).2 ≤ len := by
      rcases hullL_is q.1 lo (q.1 (lo + k)) len with ⟨e, _⟩ | ⟨_, g, _⟩
      · rw [e]; exact Nat.zero_le _
      · exact g
    generalize hullL q.1 lo (q.1 (lo + k)) len = s at hs
    unfold setL
    by_cases hc : lo + s.1 ≤ x ∧ x < lo + s.1 + (s.2 - s.1)
    · omega
    · rw [if_neg hc]; exact ih'
end Go.Proofs.Ytohhobcipfmkbaa.UFinEv
/-! The document's tests of links, as the printed functions do them. -/
namespace Go.Proofs.Ytohhobcipfmkbaa.UFinEv
open Go.RowKit Go.Proofs.YtohhobcipfmkbaaW.PrintWords Go.Proofs.Ytohhobcipfmkbaa.U Go.Proofs.Ytohhobcipfmkbaa.PClusterFinest Go.Proofs.Ytohhobcipfmkbaa.UFinest
set_option linter.unusedVariables false
set_option linter.unusedSimpArgs false
def RepB (P : Nat → Bool) (l : List Bool) : Prop := ∀ i, i < l.length → l.getD i false = P i
theorem repB_set {P : Nat → Bool} {l : List Bool} (h : RepB P l) (i : Nat) (hi : i < l.length) : RepB (fun j => P j || decide (j = i)) (l.set i true) := by
  intro j hj
  rw [List.length_set] at hj
  by_cases hji : j = i
  · subst hji
    rw [List.getD_eq_getElem?_getD, List.getElem?_set_self (by omega)]
    simp
  · rw [List.getD_eq_getElem?_getD, List.getElem?_set_ne (Ne.symm hji), ← List.getD_eq_getElem?_getD, h j hj]
    simp [hji]
theorem rdB (l : List Bool) (i : Nat) : rdOf false l (i : Int) = l.getD i false := by
  unfold rdOf
  rw [Int.toNat_natCast]
/-- a link that may be: it lies within the places -/
structure LinkOk (n m : Nat) (x : S45) : Prop where
  a0 : 0 ≤ x.f0.f0
  ab : x.f0.f0 < x.f0.f1
  bn : x.f0.f1 ≤ n
  c0 : 0 ≤ x.f1.f0
  cd : x.f1.f0 < x.f1.f1
  dm : x.f1.f1 ≤ m
theorem LinkOk.nn {n m : Nat} {x : S45} (h : LinkOk n m x) : NonNeg x := by
  have := h.a0; have := h.ab; have := h.c0; have := h.cd
  exact ⟨by omega, by omega, by omega, by omega⟩
theorem linkedB_cons (x : Lk) (l : List Lk) (i : Nat) : linkedB (x :: l) i = ((decide (x.a ≤ i) && decide (i < x.b)) || linkedB l i) := by unfold linkedB; rw [List.any_cons]
/-! ### places ahead of all that are in a link -/
end Go.Proofs.Ytohhobcipfmkbaa.UFinEv
/-! The document's test of what is wrong with links, as the printed functions do it. -/
namespace Go.Proofs.Ytohhobcipfmkbaa.UFinEv
open Go.RowKit Go.Proofs.YtohhobcipfmkbaaW.PrintWords Go.Proofs.Ytohhobcipfmkbaa.U Go.Proofs.Ytohhobcipfmkbaa.PClusterFinest Go.Proofs.Ytohhobcipfmkbaa.UFinest
set_option linter.unusedVariables false
set_option linter.unusedSimpArgs false
def fitB (lo hi n : Int) : Bool := decide (0 ≤ lo) && decide (lo < hi) && decide (hi ≤ n)
def okB (n m : Int) (x : S45) : Bool := fitB x.f0.f0 x.f0.f1 n && fitB x.f1.f0 x.f1.f1 m
def outB (l : List S45) (k : Nat) : Bool := l.any fun x => decide (x.f1.f0 ≤ k) && decide ((k : Int) < x.f1.f1)
/-- what is wrong, when the links lie within the places -/
def wrongIn (n m : Int) (l : List S45) : Int := if m = 0 ∧ n > 0 then 8 else if n = 0 ∧ m > 0 then 13 else if (List.range m.toNat).all (outB l) then 0 else 13
def wrongR (n m : Int) (l : List S45) : Int := if n < 0 ∨ n > 16777216 ∨ m < 0 ∨ m > 16777216 then 1 else if l.all (okB n m) then wrongIn n m l else 1
theorem outB_add (l : List S45) (x : S45) (k : Nat) : outB (l ++ [x]) k = (outB l k || (decide (x.f1.f0 ≤ k) && decide ((k : Int) < x.f1.f1))) := by
  unfold outB
  rw [List.any_append]
  simp
theorem fitB_right {lo hi n : Int} (h : fitB lo hi n = true) : 0 ≤ lo ∧ lo < hi ∧ hi ≤ n := by
  unfold fitB at h
  simp at h
  exact ⟨h.1.1, h.1.2, h.2⟩
theorem right_is (lo hi : Int) : naskhref03_Right.f lo hi = some (decide (0 ≤ lo) && decide (lo < hi)) := by
  unfold naskhref03_Right.f
  split
  · rename_i h; simp [h]
  · rename_i h; simp [h]
end Go.Proofs.Ytohhobcipfmkbaa.UFinEv
/-! Plain law of sets as a list of parents: to find, and to join. No Go and no memory in it. -/
namespace Go.Proofs.Ytohhobcipfmkbaa.UFinest
set_option linter.unusedVariables false
set_option linter.unusedSimpArgs false
/-- labels: each place's is no greater than it, and stands for itself -/
structure LabOk (N : Nat) (r : Lab) : Prop where
  le : ∀ i, i < N → r i ≤ i
  rr : ∀ i, i < N → r (r i) = r i
/-- the list of parents of labels -/
def PF (N : Nat) (r : Lab) (p : List Int) : Prop := ∀ i, i < N → ∃ q : Nat, p.getD i 0 = (q : Int) ∧ q ≤ i ∧ r q = r i ∧ (q = i → r i = i)
theorem getD_set_self (p : List Int) (i : Nat) (x : Int) (h : i < p.length) : (p.set i x).getD i 0 = x := by
  rw [List.getD_eq_getElem?_getD, List.getElem?_set_self h]; rfl
theorem getD_set_ne (p : List Int) (i j : Nat) (x : Int) (h : j ≠ i) : (p.set i x).getD j 0 = p.getD j 0 := by
  rw [List.getD_eq_getElem?_getD, List.getElem?_set_ne (Ne.symm h), ← List.getD_eq_getElem?_getD]
/-- half of the way: the parent's parent -/
theorem PF.half {N : Nat} {r : Lab} {p : List Int} (h : PF N r p) (hl : p.length = N) {i q q2 : Nat} (hi : i < N) (h1 : p.getD i 0 = (q : Int)) (h2 : p.getD q 0 = (q2 : Int)) : PF N r (p.set i (q2 : Int)) := by
  intro j hj
  by_cases e : j = i
  · subst e
    obtain ⟨a, a1, a2, a3, a4⟩ := h j hi
    have ea : a = q := by omega
    subst ea
    obtain ⟨b, b1, b2, b3, b4⟩ := h a (by omega)
    have eb : b = q2 := by omega
    subst eb
    exact ⟨b, getD_set_self p j _ (by omega), by omega, b3.trans a3, fun e => a4 (by omega)⟩
  · obtain ⟨a, a1, a2, a3, a4⟩ := h j hj
    exact ⟨a, (getD_set_ne p i j _ e).trans a1, a2, a3, a4⟩
theorem LabOk.merge {N : Nat} {r : Lab} (h : LabOk N r) (a b : Nat) (ha : a < N) (hb : b < N) : LabOk N (merge r a b) := by
  have h1 := h.le a ha
  have h2 := h.le b hb
  have h3 := h.rr a ha
  have h4 := h.rr b hb
  refine ⟨fun i hi => Nat.le_trans (merge_le _ _ _ _) (h.le i hi), fun i hi => ?_⟩
  have h5 := h.rr i hi
  unfold UFinest.merge
  by_cases e : r i = max (r a) (r b)
  · rw [if_pos e]
    rcases Nat.le_total (r a) (r b) with hab | hab
    · rw [Nat.min_eq_left hab, Nat.max_eq_right hab, h3]; split <;> omega
    · rw [Nat.min_eq_right hab, Nat.max_eq_left hab, h4]; split <;> omega
  · rw [if_neg e, h5, if_neg e]
theorem PF.join {N : Nat} {r : Lab} {p : List Int} (h : PF N r p) (ho : LabOk N r) (hl : p.length = N) (a b : Nat) (ha : a < N) (hb : b < N) (hne : r a ≠ r b) : PF N (merge r a b) (p.set (max (r a) (r b)) ((min (r a) (r b) : Nat) : Int)) := by
  have h1 := ho.le a ha
  have h2 := ho.le b hb
  have h3 := ho.rr a ha
  have h4 := ho.rr b hb
  have hM : r (max (r a) (r b)) = max (r a) (r b) := by
    rcases Nat.le_total (r a) (r b) with hab | hab
    · rw [Nat.max_eq_right hab]; exact h4
    · rw [Nat.max_eq_left hab]; exact h3
  have hm : r (min (r a) (r b)) = min (r a) (r b) := by
    rcases Nat.le_total (r a) (r b) with hab | hab
    · rw [Nat.min_eq_left hab]; exact h3
    · rw [Nat.min_eq_right hab]; exact h4
  intro j hj
  by_cases e : j = max (r a) (r b)
  · refine ⟨min (r a) (r b), ?_, by omega, ?_, fun h => by omega⟩
    · rw [e]; exact getD_set_self p _ _ (by omega)
    · rw [e]
      unfold UFinest.merge
      rw [hm, hM, if_pos rfl, if_neg (by omega)]
  · obtain ⟨q, q1, q2, q3, q4⟩ := h j hj
    refine ⟨q, (getD_set_ne p _ _ _ e).trans q1, q2, merge_keep r a b q j q3, fun eq => ?_⟩
    have := q4 eq
    unfold UFinest.merge
    rw [this, if_neg e]
theorem PF.root {N : Nat} {r : Lab} {p : List Int} (h : PF N r p) {i : Nat} (hi : i < N) (he : p.getD i 0 = (i : Int)) : r i = i := by
  obtain ⟨q, q1, q2, q3, q4⟩ := h i hi
  exact q4 (by omega)
theorem PF.up {N : Nat} {r : Lab} {p : List Int} (h : PF N r p) {i : Nat} (hi : i < N) (he : p.getD i 0 ≠ (i : Int)) : ∃ q : Nat, p.getD i 0 = (q : Int) ∧ q < i ∧ r q = r i := by
  obtain ⟨q, q1, q2, q3, q4⟩ := h i hi
  exact ⟨q, q1, by rcases Nat.lt_or_ge q i with h | h; exact h; exact absurd (by rw [q1]; omega) he, q3⟩
theorem labOk_id (N : Nat) : LabOk N idL := ⟨fun _ _ => Nat.le_refl _, fun _ _ => rfl⟩
theorem PF.id {N : Nat} {p : List Int} (h : ∀ i, i < N → p.getD i 0 = (i : Int)) : PF N idL p := fun i hi => ⟨i, h i hi, Nat.le_refl _, rfl, fun _ => rfl⟩
theorem two_false {r : Lab} {a b : Nat} (h : r a = r b) : two r a b = false := by unfold two; rw [decide_eq_false_iff_not]; exact fun h' => h' h
theorem two_true {r : Lab} {a b : Nat} (h : r a ≠ r b) : two r a b = true := by unfold two; exact decide_eq_true h
end Go.Proofs.Ytohhobcipfmkbaa.UFinest
/-! The document's finest map: what its links join, its fixpoint, and the clusters of labels. -/
namespace Go.Proofs.Ytohhobcipfmkbaa.UFinest
set_option linter.unusedVariables false
set_option linter.unusedSimpArgs false
/-- labels that join what must be joined, and no more -/
structure FinOk (n m : Nat) (l : List Lk) (L : Lab) : Prop where
  sound : ∀ R, Closed n m l R → Sound R L
  closed : Closed n m l (fun x y => L x = L y)
theorem FinOk.same {n m : Nat} {l : List Lk} {L L' : Lab} (h : FinOk n m l L) (h' : FinOk n m l L') (x y : Nat) : L x = L y ↔ L' x = L' y := same_sets h.sound h'.sound h.closed h'.closed x y
def strayL (l : List Lk) (k : Nat) : List Lk := (List.range k).filterMap fun i => if 1 ≤ i ∧ linkedB l i = false then some ⟨i - 1, i + 1, 0, 0⟩ else none
def aheadL (l : List Lk) (n : Nat) : List Lk := if 0 < firstF l n ∧ firstF l n < n then [⟨0, firstF l n + 1, 0, 0⟩] else []
def allL (n : Nat) (l : List Lk) : List Lk := l ++ strayL l n ++ aheadL l n
theorem strayL_add (l : List Lk) (k : Nat) : strayL l (k + 1) = strayL l k ++ (if 1 ≤ k ∧ linkedB l k = false then [⟨k - 1, k + 1, 0, 0⟩] else []) := by
  unfold strayL
  rw [List.range_succ, List.filterMap_append]
  by_cases h : 1 ≤ k ∧ linkedB l k = false
  · simp [h]
  · rw [if_neg h]; simp [List.filterMap_cons, h]
theorem mem_strayL {l : List Lk} {k : Nat} {x : Lk} (h : x ∈ strayL l k) : ∃ i, 1 ≤ i ∧ i < k ∧ linkedB l i = false ∧ x = ⟨i - 1, i + 1, 0, 0⟩ := by
  unfold strayL at h
  obtain ⟨i, h1, h2⟩ := List.mem_filterMap.1 h
  by_cases hc : 1 ≤ i ∧ linkedB l i = false
  · rw [if_pos hc] at h2
    exact ⟨i, hc.1, List.mem_range.1 h1, hc.2, (Option.some.inj h2).symm⟩
  · rw [if_neg hc] at h2; cases h2
theorem strayL_mem {l : List Lk} {k i : Nat} (h1 : 1 ≤ i) (h2 : i < k) (h3 : linkedB l i = false) : (⟨i - 1, i + 1, 0, 0⟩ : Lk) ∈ strayL l k := List.mem_filterMap.2 ⟨i, List.mem_range.2 h2, by rw [if_pos ⟨h1, h3⟩]⟩
theorem mem_aheadL {l : List Lk} {n : Nat} {x : Lk} (h : x ∈ aheadL l n) : 0 < firstF l n ∧ firstF l n < n ∧ x = ⟨0, firstF l n + 1, 0, 0⟩ := by
  unfold aheadL at h
  by_cases hc : 0 < firstF l n ∧ firstF l n < n
  · rw [if_pos hc] at h; exact ⟨hc.1, hc.2, List.mem_singleton.1 h⟩
  · rw [if_neg hc] at h; cases h
theorem ahead_all {n m : Nat} {l : List Lk} {R : Nat → Nat → Prop} (hR : Closed n m l R) (hf : firstF l n < n) (i : Nat) : i ≤ firstF l n → R 0 i := by
  induction i with
  | zero => intro _; exact hR.eqv.refl 0
  | succ i ih => intro h; exact hR.eqv.trans _ _ _ (ih (by omega)) (hR.ahead i (by omega) hf)
theorem all_in {n m : Nat} {l : List Lk} (hw : ∀ x ∈ l, LkIn n m x) : ∀ x ∈ allL n l, LkIn n m x := by
  intro x hx
  unfold allL at hx
  rcases List.mem_append.1 hx with hx | hx
  · rcases List.mem_append.1 hx with hx | hx
    · exact hw x hx
    · obtain ⟨i, h1, h2, h3, rfl⟩ := mem_strayL hx
      exact ⟨by dsimp only; omega, by dsimp only; omega, fun h => absurd h (Nat.lt_irrefl 0)⟩
  · obtain ⟨h1, h2, rfl⟩ := mem_aheadL hx
    exact ⟨by dsimp only; omega, by dsimp only; omega, fun h => absurd h (Nat.lt_irrefl 0)⟩
theorem all_ok {n m : Nat} {l : List Lk} {R : Nat → Nat → Prop} (hR : Closed n m l R) : ∀ x ∈ allL n l, LkOk n m R x := by
  intro x hx
  unfold allL at hx
  rcases List.mem_append.1 hx with hx | hx
  · rcases List.mem_append.1 hx with hx | hx
    · exact ⟨hR.ins x hx, hR.outs x hx, fun _ => hR.both x hx⟩
    · obtain ⟨i, h1, h2, h3, rfl⟩ := mem_strayL hx
      refine ⟨?_, fun j _ h => absurd h (Nat.not_lt_zero j), fun h => absurd h (Nat.lt_irrefl 0)⟩
      intro j hj1 hj2
      dsimp only at hj1 hj2 ⊢
      by_cases hj : j = i
      · rw [hj]; exact hR.stray i (by omega) h2 h3
      · rw [show j = i - 1 by omega]; exact hR.eqv.refl _
  · obtain ⟨h1, h2, rfl⟩ := mem_aheadL hx
    refine ⟨?_, fun j _ h => absurd h (Nat.not_lt_zero j), fun h => absurd h (Nat.lt_irrefl 0)⟩
    intro j hj1 hj2
    dsimp only at hj1 hj2 ⊢
    exact ahead_all hR h2 j (by omega)
theorem turn_step {n m : Nat} {l : List Lk} (hw : ∀ x ∈ l, LkIn n m x) {L : Lab} (h : ∀ R, Closed n m l R → Sound R L) : ∀ R, Closed n m l R → Sound R (turnL n m (allL n l) L).1 :=
  fun R hR => sound_turnL hR.eqv (fun i j k _ => hR.conv1 i j k) (fun i j k h1 h2 h3 h4 => hR.conv2 i j k h1 h2 h3 h4) (all_ok hR) (all_in hw) (h R hR)
theorem turn_last {n m : Nat} {l : List Lk} (hw : ∀ x ∈ l, LkIn n m x) (hw2 : ∀ x ∈ l, x.c < x.d) {L : Lab} (h : ∀ R, Closed n m l R → Sound R L) (hf : (turnL n m (allL n l) L).2 = false) : FinOk n m l L := by
  obtain ⟨h1, h2, h3, h4⟩ := turnL_false hf
  have mem1 : ∀ x ∈ l, x ∈ allL n l := fun x hx => List.mem_append_left _ (List.mem_append_left _ hx)
  have hst : ∀ i, 0 < i → i < n → linkedB l i = false → L (i - 1) = L i := by
    intro i h0 h1 h3
    exact (h2 _ (List.mem_append_left _ (List.mem_append_right _ (strayL_mem h0 h1 h3)))).1 i (by dsimp only; omega) (by dsimp only; omega)
  refine ⟨h, ⟨⟨fun _ => rfl, fun _ _ h => h.symm, fun _ _ _ h h' => h.trans h'⟩, fun x hx => (h2 x (mem1 x hx)).1, fun x hx => ((h2 x (mem1 x hx)).2 (hw2 x hx) (hw x hx).a).1, fun x hx => ((h2 x (mem1 x hx)).2 (hw2 x hx) (hw x hx).a).2, hst, ?_, ?_, ?_⟩⟩
  · intro i hi hn
    by_cases hi1 : i + 1 = firstF l n
    · have hm : (⟨0, firstF l n + 1, 0, 0⟩ : Lk) ∈ allL n l := List.mem_append_right _ (by unfold aheadL; rw [if_pos ⟨by omega, hn⟩]; exact List.mem_singleton.2 rfl)
      have := (h2 _ hm).1
      exact (this i (by dsimp only; omega) (by dsimp only; omega)).symm.trans (this (i + 1) (by dsimp only; omega) (by dsimp only; omega))
    · exact hst (i + 1) (by omega) (by omega) (first_least l n (i + 1) (by omega) (first_le l n))
  · exact fun i j k h1 h2 h4 h5 => h3 i j k (Nat.zero_le _) h1 h2 h4 h5
  · exact fun i j k h0 h1 h2 h5 h6 => h4 i j k h0 h1 h2 h5 h6
/-! ### the clusters of labels -/
abbrev Clu := (Nat × Nat) × (Nat × Nat)
def cluTo (n m : Nat) (L : Lab) (k : Nat) : List Clu := (List.range k).filterMap fun i => if i = 0 ∨ L i ≠ L (i - 1) then some (hullL L 0 (L i) n, hullL L n (L i) m) else none
theorem cluTo_add (n m : Nat) (L : Lab) (k : Nat) : cluTo n m L (k + 1) = cluTo n m L k ++ (if k = 0 ∨ L k ≠ L (k - 1) then [(hullL L 0 (L k) n, hullL L n (L k) m)] else []) := by
  unfold cluTo
  rw [List.range_succ, List.filterMap_append]
  by_cases h : k = 0 ∨ L k ≠ L (k - 1)
  · rw [if_pos h]; simp [List.filterMap_cons, h]
  · rw [if_neg h]; simp [List.filterMap_cons, h]
theorem hullL_same {r q : Lab} (h : ∀ x y, r x = r y ↔ q x = q y) (lo i : Nat) (k : Nat) : hullL r lo (r i) k = hullL q lo (q i) k := by
  induction k with
  | zero => rfl
  | succ k ih =>
    unfold hullL
    rw [ih]
    by_cases hc : r (lo + k) = r i
    · rw [if_pos hc, if_pos ((h _ _).1 hc)]
    · rw [if_neg hc, if_neg (fun h' => hc ((h _ _).2 h'))]
theorem cluTo_same {r q : Lab} (h : ∀ x y, r x = r y ↔ q x = q y) (n m k : Nat) : cluTo n m r k = cluTo n m q k := by
  unfold cluTo
  congr 1
  funext i
  rw [hullL_same h 0 i n, hullL_same h n i m]
  by_cases hc : i = 0 ∨ r i ≠ r (i - 1)
  · rw [if_pos hc, if_pos (hc.imp_right fun h' => fun e => h' ((h _ _).2 e))]
  · rw [if_neg hc, if_neg (fun h' => hc (h'.imp_right fun h2 => fun e => h2 ((h _ _).1 e)))]
end Go.Proofs.Ytohhobcipfmkbaa.UFinest
/-! Plain law of the clusters: labels in the order in which they are met first, each with its hulls. No Go and no memory in it. -/
namespace Go.Proofs.Ytohhobcipfmkbaa.UFinest
set_option linter.unusedVariables false
set_option linter.unusedSimpArgs false
def firsts (r : Lab) : Nat → List Nat
  | 0 => []
  | k + 1 => if r k ∈ firsts r k then firsts r k else firsts r k ++ [r k]
theorem mem_firsts (r : Lab) (k v : Nat) : v ∈ firsts r k ↔ ∃ i, i < k ∧ r i = v := by
  induction k with
  | zero => simp [firsts]
  | succ k ih =>
    unfold firsts
    by_cases h : r k ∈ firsts r k
    · rw [if_pos h, ih]
      constructor
      · rintro ⟨i, hi, e⟩; exact ⟨i, by omega, e⟩
      · rintro ⟨i, hi, e⟩
        rcases Nat.lt_or_ge i k with h' | h'
        · exact ⟨i, h', e⟩
        · obtain rfl : i = k := by omega
          exact ih.1 (e ▸ h)
    · rw [if_neg h, List.mem_append, ih, List.mem_singleton]
      constructor
      · rintro (⟨i, hi, e⟩ | e)
        · exact ⟨i, by omega, e⟩
        · exact ⟨k, by omega, e.symm⟩
      · rintro ⟨i, hi, e⟩
        rcases Nat.lt_or_ge i k with h' | h'
        · exact .inl ⟨i, h', e⟩
        · obtain rfl : i = k := by omega
          exact .inr e.symm
theorem firsts_nodup (r : Lab) (k : Nat) : (firsts r k).Nodup := by
  induction k with
  | zero => exact List.nodup_nil
  | succ k ih =>
    unfold firsts
    split
    · exact ih
    · rename_i h
      rw [List.nodup_append]
      exact ⟨ih, by simp, fun a ha b hb e => h (by rw [List.mem_singleton] at hb; rw [← hb, ← e]; exact ha)⟩
theorem firsts_len (r : Lab) (k : Nat) : (firsts r k).length ≤ k := by
  induction k with
  | zero => exact Nat.le_refl _
  | succ k ih =>
    unfold firsts
    split
    · omega
    · simp; exact ih
theorem map_set_idx {β : Type} (l : List Nat) (hn : l.Nodup) (v : Nat) (hv : v ∈ l) (f f' : Nat → β) (h : ∀ x ∈ l, x ≠ v → f' x = f x) : l.map f' = (l.map f).set (l.idxOf v) (f' v) := by
  apply List.ext_getElem (by simp)
  intro i h1 h2
  have hi : i < l.length := by simpa using h1
  rw [List.getElem_set]
  by_cases e : l.idxOf v = i
  · rw [if_pos e]
    subst e
    rw [List.getElem_map, List.getElem_idxOf]
  · rw [if_neg e, List.getElem_map, List.getElem_map]
    refine h _ (List.getElem_mem hi) fun e' => e ?_
    rw [← e']
    exact hn.idxOf_getElem i hi
/-- the clusters behind k places of what goes in -/
def clu1 (r : Lab) (m k : Nat) (v : Nat) : Clu := (hullL r 0 v k, (m, 0))
def out2 (r : Lab) (n m : Nat) (v t : Nat) : Nat × Nat := if (hullL r n v t).2 = 0 then (m, 0) else hullL r n v t
def clu2 (r : Lab) (n m t : Nat) (v : Nat) : Clu := (hullL r 0 v n, out2 r n m v t)
theorem hull_far {r : Lab} {lo v k : Nat} (h : r (lo + k) ≠ v) : hullL r lo v (k + 1) = hullL r lo v k := by
  show (if r (lo + k) = v then _ else _) = _
  rw [if_neg h]
theorem hull_met {r : Lab} {k v : Nat} (h : v ∈ firsts r k) : (hullL r 0 v k).1 < (hullL r 0 v k).2 := by
  obtain ⟨i, hi, e⟩ := (mem_firsts r k v).1 h
  rcases hullL_is r 0 v k with ⟨h1, h2⟩ | h2
  · exact absurd (by rw [Nat.zero_add]; exact e) (h2 i hi)
  · exact h2.1
theorem clu1_there {r : Lab} {m k : Nat} (h : r k ∈ firsts r k) : (firsts r (k + 1)).map (clu1 r m (k + 1)) = ((firsts r k).map (clu1 r m k)).set ((firsts r k).idxOf (r k)) (((hullL r 0 (r k) k).1, k + 1), (m, 0)) := by
  have e : firsts r (k + 1) = firsts r k := by rw [firsts, if_pos h]
  rw [e, map_set_idx _ (firsts_nodup r k) _ h (clu1 r m k) (clu1 r m (k + 1))]
  · congr 1
    unfold clu1
    have hm := hull_met h
    show ((if r (0 + k) = r k then _ else _), (m, 0)) = _
    rw [Nat.zero_add, if_pos rfl, if_neg (by omega)]
  · intro x hx hne
    unfold clu1
    rw [hull_far (by rw [Nat.zero_add]; exact fun e => hne e.symm)]
theorem clu1_new {r : Lab} {m k : Nat} (h : r k ∉ firsts r k) : (firsts r (k + 1)).map (clu1 r m (k + 1)) = (firsts r k).map (clu1 r m k) ++ [((k, k + 1), (m, 0))] := by
  have e : firsts r (k + 1) = firsts r k ++ [r k] := by rw [firsts, if_neg h]
  rw [e, List.map_append]
  congr 1
  · apply List.map_congr_left
    intro x hx
    unfold clu1
    rw [hull_far (by rw [Nat.zero_add]; exact fun e => h (e ▸ hx))]
  · unfold clu1
    have h0 : hullL r 0 (r k) k = (0, 0) := by
      rcases hullL_is r 0 (r k) k with ⟨h1, _⟩ | h2
      · exact h1
      · exact absurd ((mem_firsts r k _).2 ⟨(hullL r 0 (r k) k).1, by omega, by have := h2.2.2.1; rwa [Nat.zero_add] at this⟩) h
    rw [List.map_singleton]
    show [((if r (0 + k) = r k then _ else _), (m, 0))] = _
    rw [Nat.zero_add, if_pos rfl, h0, if_pos rfl]
theorem clu2_start (r : Lab) (n m : Nat) : (firsts r n).map (clu1 r m n) = (firsts r n).map (clu2 r n m 0) := List.map_congr_left fun v _ => by
  unfold clu1 clu2 out2
  rw [if_pos (by rfl)]
theorem clu2_step {r : Lab} {n m t : Nat} (ht : t < m) (h : r (n + t) ∈ firsts r n) : (firsts r n).map (clu2 r n m (t + 1)) = ((firsts r n).map (clu2 r n m t)).set ((firsts r n).idxOf (r (n + t))) (hullL r 0 (r (n + t)) n, (min (out2 r n m (r (n + t)) t).1 t, t + 1)) := by
  rw [map_set_idx _ (firsts_nodup r n) _ h (clu2 r n m t) (clu2 r n m (t + 1))]
  · congr 1
    unfold clu2 out2
    have e : hullL r n (r (n + t)) (t + 1) = ((if (hullL r n (r (n + t)) t).2 = 0 then t else (hullL r n (r (n + t)) t).1), t + 1) := by
      show (if r (n + t) = r (n + t) then _ else _) = _
      rw [if_pos rfl]
    rw [e, if_neg (by simp)]
    congr 1
    congr 1
    by_cases hz : (hullL r n (r (n + t)) t).2 = 0
    · rw [if_pos hz, if_pos hz]; dsimp only; omega
    · rw [if_neg hz, if_neg hz]
      rcases hullL_is r n (r (n + t)) t with ⟨h1, _⟩ | h2
      · rw [h1] at hz; exact absurd rfl hz
      · omega
  · intro x hx hne
    unfold clu2 out2
    rw [hull_far (fun e => hne e.symm)]
theorem firsts_cut {r : Lab} {n : Nat} (hb : Between (fun x y => r x = r y) 0 n) (k : Nat) (hk : k < n) : r k ∈ firsts r k ↔ ¬ (k = 0 ∨ r k ≠ r (k - 1)) := by
  rw [mem_firsts]
  constructor
  · rintro ⟨i, hi, e⟩ (h | h)
    · omega
    · exact h (e.symm.trans (hb i (k - 1) k (Nat.zero_le _) (by omega) (by omega) hk e))
  · intro h
    exact ⟨k - 1, by omega, (Decidable.byContradiction fun e => h (.inr (fun e' => e e'.symm)))⟩
theorem cluTo_firsts {r : Lab} {n m : Nat} (hb : Between (fun x y => r x = r y) 0 n) (k : Nat) (hk : k ≤ n) : cluTo n m r k = (firsts r k).map fun v => (hullL r 0 v n, hullL r n v m) := by
  induction k with
  | zero => rfl
  | succ k ih =>
    rw [cluTo_add, ih (by omega), firsts]
    have hc := firsts_cut hb k (by omega)
    by_cases h : k = 0 ∨ r k ≠ r (k - 1)
    · rw [if_pos h, if_neg (fun h' => hc.1 h' h), List.map_append]; rfl
    · rw [if_neg h, if_pos (hc.2 h), List.append_nil]
theorem clu2_end {r : Lab} {n m : Nat} (hb : Between (fun x y => r x = r y) 0 n) (ho : ∀ j, j < n → ∃ i, i < m ∧ r (n + i) = r j) : (firsts r n).map (clu2 r n m m) = cluTo n m r n := by
  rw [cluTo_firsts hb n (Nat.le_refl _)]
  apply List.map_congr_left
  intro v hv
  obtain ⟨j, hj, e⟩ := (mem_firsts r n v).1 hv
  obtain ⟨i, hi, e2⟩ := ho j hj
  unfold clu2 out2
  rw [if_neg]
  rcases hullL_is r n v m with ⟨_, h2⟩ | h2
  · exact absurd (e2.trans e) (h2 i hi)
  · omega
/-- each place of what goes in belongs to one of what comes out -/
theorem outs_met {n m : Nat} {l : List Lk} {R : Nat → Nat → Prop} (hR : Closed n m l R) (hw : ∀ x ∈ l, x.a < x.b ∧ x.c < x.d) (hm : ∀ x ∈ l, x.d ≤ m) (hf : firstF l n < n) (j : Nat) (hj : j < n) : ∃ i, i < m ∧ R (n + i) j := by
  have linked : ∀ j, linkedB l j = true → ∃ i, i < m ∧ R (n + i) j := by
    intro j h
    unfold linkedB at h
    obtain ⟨x, hx, h⟩ := List.any_eq_true.1 h
    simp only [Bool.and_eq_true, decide_eq_true_eq] at h
    have := hw x hx; have := hm x hx
    exact ⟨x.c, by omega, hR.eqv.trans _ _ _ (hR.eqv.symm _ _ (hR.both x hx)) (hR.ins x hx j h.1 h.2)⟩
  have hfirst := linked _ (first_linked l n hf)
  have behind : ∀ d, firstF l n + d < n → ∃ i, i < m ∧ R (n + i) (firstF l n + d) := by
    intro d
    induction d with
    | zero => intro _; exact hfirst
    | succ d ih =>
      intro h
      cases e : linkedB l (firstF l n + (d + 1)) with
      | true => exact linked _ e
      | false =>
        obtain ⟨i, hi, h'⟩ := ih (by omega)
        exact ⟨i, hi, hR.eqv.trans _ _ _ h' (hR.stray (firstF l n + (d + 1)) (by omega) h e)⟩
  have ahead : ∀ d, d ≤ firstF l n → ∃ i, i < m ∧ R (n + i) (firstF l n - d) := by
    intro d
    induction d with
    | zero => intro _; exact hfirst
    | succ d ih =>
      intro h
      obtain ⟨i, hi, h'⟩ := ih (by omega)
      have := hR.ahead (firstF l n - (d + 1)) (by omega) hf
      rw [show firstF l n - (d + 1) + 1 = firstF l n - d by omega] at this
      exact ⟨i, hi, hR.eqv.trans _ _ _ h' (hR.eqv.symm _ _ this)⟩
  rcases Nat.lt_or_ge j (firstF l n) with h | h
  · have := ahead (firstF l n - j) (by omega)
    rwa [show firstF l n - (firstF l n - j) = j by omega] at this
  · have := behind (j - firstF l n) (by omega)
    rwa [show firstF l n + (j - firstF l n) = j by omega] at this
/-- each place of what comes out belongs to one of what goes in, if all are in a link -/
theorem ins_met {n m : Nat} {l : List Lk} {R : Nat → Nat → Prop} (hR : Closed n m l R) (hb : ∀ x ∈ l, x.a < x.b ∧ x.b ≤ n) (hc : ∀ i, i < m → ∃ x ∈ l, x.c ≤ i ∧ i < x.d) (i : Nat) (hi : i < m) : ∃ j, j < n ∧ R j (n + i) := by
  obtain ⟨x, hx, h1, h2⟩ := hc i hi
  have := hb x hx
  exact ⟨x.a, by omega, hR.eqv.trans _ _ _ (hR.both x hx) (hR.outs x hx i h1 h2)⟩
end Go.Proofs.Ytohhobcipfmkbaa.UFinest
