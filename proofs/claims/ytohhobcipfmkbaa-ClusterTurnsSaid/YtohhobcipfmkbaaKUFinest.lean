/- Texts of this claim, cut to what it needs. -/

namespace Go.Proofs.Ytohhobcipfmkbaa.UFinest
set_option linter.unusedVariables false
set_option linter.unusedSimpArgs false
abbrev Lab := Nat → Nat
def merge (r : Lab) (a b : Nat) : Lab := fun x => if r x = max (r a) (r b) then min (r a) (r b) else r x
def two (r : Lab) (a b : Nat) : Bool := decide (r a ≠ r b)
theorem merge_eq (r : Lab) (a b : Nat) : merge r a b a = merge r a b b := by
  unfold merge
  by_cases h : r a ≤ r b
  · rw [Nat.max_eq_right h, Nat.min_eq_left h, if_pos rfl]
    split <;> rfl
  · rw [Nat.max_eq_left (by omega), Nat.min_eq_right (by omega), if_pos rfl]
    split <;> rfl
theorem merge_keep (r : Lab) (a b x y : Nat) (h : r x = r y) : merge r a b x = merge r a b y := by unfold merge; rw [h]
theorem merge_same (r : Lab) (a b : Nat) (h : r a = r b) : merge r a b = r := by
  funext x
  unfold merge
  rw [h, Nat.max_self, Nat.min_self]
  split
  · rename_i h1; exact h1.symm
  · rfl
theorem merge_le (r : Lab) (a b x : Nat) : merge r a b x ≤ r x := by
  unfold merge
  split
  · rename_i h; rw [h]; omega
  · exact Nat.le_refl _
structure Eqv (R : Nat → Nat → Prop) : Prop where
  refl : ∀ x, R x x
  symm : ∀ x y, R x y → R y x
  trans : ∀ x y z, R x y → R y z → R x z
def Sound (R : Nat → Nat → Prop) (r : Lab) : Prop := ∀ x, R x (r x)
theorem Sound.eq {R : Nat → Nat → Prop} {r : Lab} (hR : Eqv R) (h : Sound R r) {x y : Nat} (e : r x = r y) : R x y := hR.trans _ _ _ (h x) (e ▸ hR.symm _ _ (h y))
theorem sound_merge {R : Nat → Nat → Prop} {r : Lab} (hR : Eqv R) (h : Sound R r) {a b : Nat} (hab : R a b) : Sound R (merge r a b) := by
  intro x
  unfold merge
  split
  · rename_i hx
    have h1 : R (r a) (r b) := hR.trans _ _ _ (hR.symm _ _ (h a)) (hR.trans _ _ _ hab (h b))
    have hxx := h x
    rw [hx] at hxx
    by_cases hle : r a ≤ r b
    · rw [Nat.max_eq_right hle] at hxx
      rw [Nat.min_eq_left hle]
      exact hR.trans _ _ _ hxx (hR.symm _ _ h1)
    · rw [Nat.max_eq_left (by omega)] at hxx
      rw [Nat.min_eq_right (by omega)]
      exact hR.trans _ _ _ hxx h1
  · exact h x
structure Lk where
  a : Nat
  b : Nat
  c : Nat
  d : Nat
def allF (r : Lab) (base : Nat) : Nat → Lab
  | 0 => r
  | k + 1 => merge (allF r base k) base (base + k + 1)
def linkF (n : Nat) (r : Lab) (x : Lk) : Lab := merge (allF (allF r x.a (x.b - x.a - 1)) (n + x.c) (x.d - x.c - 1)) x.a (n + x.c)
def linksF (n : Nat) (r : Lab) (l : List Lk) : Lab := l.foldl (linkF n) r
def linkedB (l : List Lk) (i : Nat) : Bool := l.any fun x => decide (x.a ≤ i) && decide (i < x.b)
def firstF (l : List Lk) (n : Nat) : Nat := (List.range n).findIdx (linkedB l)
def strayF (l : List Lk) (n : Nat) (r : Lab) : Nat → Lab
  | 0 => r
  | k + 1 => let q := strayF l n r k
    if linkedB l k then q else if firstF l n < k then merge q (k - 1) k else merge q k (k + 1)
def lastF (r : Lab) (lo : Nat) : Nat → Nat → Nat
  | 0 => fun _ => 0
  | k + 1 => fun v => if r (lo + k) = v then lo + k else lastF r lo k v
def closeIn (last : Nat → Nat) (i : Nat) : Nat → Nat → Lab → Bool → Lab × Bool
  | 0, _, r, t => (r, t)
  | f + 1, k, r, t => if k ≤ last (r i) then closeIn last i f (k + 1) (merge r i k) (two r i k || t) else (r, t)
def closeTo (last : Nat → Nat) (lo hi : Nat) : Nat → Lab × Bool → Lab × Bool
  | 0, s => s
  | k + 1, s => let q := closeTo last lo hi k s
    closeIn last (lo + k) (hi + 1) (lo + k + 1) q.1 q.2
def closeF (r : Lab) (lo hi : Nat) : Lab × Bool := closeTo (lastF r lo (hi - lo)) lo hi (hi - lo) (r, false)
def roundF (n m : Nat) (r : Lab) : Lab × Bool :=
  let q := closeF r 0 n
  let p := closeF q.1 n (n + m)
  (p.1, q.2 || p.2)
def roundsF (n m : Nat) : Nat → Lab → Lab
  | 0, r => r
  | f + 1, r => let q := roundF n m r
    if q.2 then roundsF n m f q.1 else q.1
structure Closed (n m : Nat) (l : List Lk) (R : Nat → Nat → Prop) : Prop where
  eqv : Eqv R
  ins : ∀ x ∈ l, ∀ i, x.a ≤ i → i < x.b → R x.a i
  outs : ∀ x ∈ l, ∀ i, x.c ≤ i → i < x.d → R (n + x.c) (n + i)
  both : ∀ x ∈ l, R x.a (n + x.c)
  stray : ∀ i, 0 < i → i < n → linkedB l i = false → R (i - 1) i
  ahead : ∀ i, i < firstF l n → firstF l n < n → R i (i + 1)
  conv1 : ∀ i j k, i ≤ j → j ≤ k → k < n → R i k → R i j
  conv2 : ∀ i j k, n ≤ i → i ≤ j → j ≤ k → k < n + m → R i k → R i j
theorem sound_allF {R : Nat → Nat → Prop} (hR : Eqv R) {r : Lab} (h : Sound R r) (base k : Nat) (hj : ∀ i, base ≤ i → i ≤ base + k → R base i) : Sound R (allF r base k) := by
  induction k with
  | zero => exact h
  | succ k ih => exact sound_merge hR (ih fun i h1 h2 => hj i h1 (by omega)) (hj _ (by omega) (by omega))
theorem allF_eq (r : Lab) (base k : Nat) : ∀ i, base ≤ i → i ≤ base + k → allF r base k base = allF r base k i := by
  induction k with
  | zero => intro i h1 h2; rw [show i = base by omega]
  | succ k ih =>
    intro i h1 h2
    unfold allF
    by_cases hi : i = base + k + 1
    · rw [hi]; exact merge_eq _ _ _
    · exact merge_keep _ _ _ _ _ (ih i h1 (by omega))
theorem allF_keep (r : Lab) (base k x y : Nat) (h : r x = r y) : allF r base k x = allF r base k y := by
  induction k with
  | zero => exact h
  | succ k ih => exact merge_keep _ _ _ _ _ ih
theorem linkF_keep (n : Nat) (r : Lab) (z : Lk) (x y : Nat) (h : r x = r y) : linkF n r z x = linkF n r z y := merge_keep _ _ _ _ _ (allF_keep _ _ _ _ _ (allF_keep _ _ _ _ _ h))
theorem linksF_keep (n : Nat) (l : List Lk) : ∀ (r : Lab) (x y : Nat), r x = r y → linksF n r l x = linksF n r l y := by
  induction l with
  | nil => intro r x y h; exact h
  | cons z t ih => intro r x y h; exact ih _ _ _ (linkF_keep n r z x y h)
theorem sound_linksF {n m : Nat} {l0 : List Lk} {R : Nat → Nat → Prop} (hR : Closed n m l0 R) (l : List Lk) (hl : ∀ x ∈ l, x ∈ l0) (hw : ∀ x ∈ l, x.a < x.b ∧ x.c < x.d) : ∀ r, Sound R r → Sound R (linksF n r l) := by
  induction l with
  | nil => intro r h; exact h
  | cons z t ih =>
    intro r h
    have hz := hl z List.mem_cons_self
    have hzw := hw z List.mem_cons_self
    refine ih (fun x hx => hl x (List.mem_cons_of_mem _ hx)) (fun x hx => hw x (List.mem_cons_of_mem _ hx)) _ ?_
    refine sound_merge hR.eqv (sound_allF hR.eqv (sound_allF hR.eqv h _ _ ?_) _ _ ?_) (hR.both z hz)
    · intro i h1 h2; exact hR.ins z hz i h1 (by omega)
    · intro i h1 h2
      have := hR.outs z hz (i - n) (by omega) (by omega)
      rwa [show n + (i - n) = i by omega] at this
theorem linkF_ins (n : Nat) (r : Lab) (z : Lk) (hz : z.a < z.b) (i : Nat) (h1 : z.a ≤ i) (h2 : i < z.b) : linkF n r z z.a = linkF n r z i := merge_keep _ _ _ _ _ (allF_keep _ _ _ _ _ (allF_eq _ _ _ i h1 (by omega)))
theorem linkF_outs (n : Nat) (r : Lab) (z : Lk) (hz : z.c < z.d) (i : Nat) (h1 : z.c ≤ i) (h2 : i < z.d) : linkF n r z (n + z.c) = linkF n r z (n + i) := merge_keep _ _ _ _ _ (allF_eq _ _ _ (n + i) (by omega) (by omega))
theorem linkF_both (n : Nat) (r : Lab) (z : Lk) : linkF n r z z.a = linkF n r z (n + z.c) := merge_eq _ _ _
theorem linksF_all (n : Nat) (l : List Lk) (hw : ∀ x ∈ l, x.a < x.b ∧ x.c < x.d) : ∀ r, ∀ z ∈ l, (∀ i, z.a ≤ i → i < z.b → linksF n r l z.a = linksF n r l i) ∧ (∀ i, z.c ≤ i → i < z.d → linksF n r l (n + z.c) = linksF n r l (n + i)) ∧ linksF n r l z.a = linksF n r l (n + z.c) := by
  induction l with
  | nil => intro r z h; simp at h
  | cons y t ih =>
    intro r z hz
    rcases List.mem_cons.1 hz with rfl | hz
    · have := hw z List.mem_cons_self
      exact ⟨fun i h1 h2 => linksF_keep n t _ _ _ (linkF_ins n r z this.1 i h1 h2), fun i h1 h2 => linksF_keep n t _ _ _ (linkF_outs n r z this.2 i h1 h2), linksF_keep n t _ _ _ (linkF_both n r z)⟩
    · exact ih (fun x hx => hw x (List.mem_cons_of_mem _ hx)) _ z hz
theorem strayF_keep (l : List Lk) (n : Nat) (r : Lab) (k x y : Nat) (h : r x = r y) : strayF l n r k x = strayF l n r k y := by
  induction k with
  | zero => exact h
  | succ k ih =>
    unfold strayF
    dsimp only
    split
    · exact ih
    · split <;> exact merge_keep _ _ _ _ _ ih
theorem strayF_more (l : List Lk) (n : Nat) (r : Lab) (k x y : Nat) (h : strayF l n r k x = strayF l n r k y) : ∀ d, strayF l n r (k + d) x = strayF l n r (k + d) y := by
  intro d
  induction d with
  | zero => exact h
  | succ d ih =>
    rw [show k + (d + 1) = (k + d) + 1 by omega]
    unfold strayF
    dsimp only
    split
    · exact ih
    · split <;> exact merge_keep _ _ _ _ _ ih
theorem first_linked (l : List Lk) (n : Nat) (h : firstF l n < n) : linkedB l (firstF l n) = true := by
  unfold firstF at h ⊢
  have := List.findIdx_getElem (xs := List.range n) (p := linkedB l) (w := by simpa using h)
  simpa using this
theorem first_least (l : List Lk) (n i : Nat) (h : i < firstF l n) (hn : firstF l n ≤ n) : linkedB l i = false := by
  unfold firstF at h hn
  have := List.not_of_lt_findIdx (xs := List.range n) (p := linkedB l) h
  simpa using this
theorem first_le (l : List Lk) (n : Nat) : firstF l n ≤ n := by
  unfold firstF
  have := List.findIdx_le_length (xs := List.range n) (p := linkedB l)
  simpa using this
theorem sound_stray {n m : Nat} {l : List Lk} {R : Nat → Nat → Prop} (hR : Closed n m l R) (hf : firstF l n < n) (k : Nat) (hk : k ≤ n) : ∀ r, Sound R r → Sound R (strayF l n r k) := by
  induction k with
  | zero => intro r h; exact h
  | succ k ih =>
    intro r h
    have ih' := ih (by omega) r h
    unfold strayF
    dsimp only
    split
    · exact ih'
    · rename_i hl
      split
      · rename_i h1
        exact sound_merge hR.eqv ih' (hR.stray k (by omega) (by omega) (by simpa using hl))
      · rename_i h1
        have : k ≠ firstF l n := fun e => hl (by rw [e]; exact first_linked l n hf)
        exact sound_merge hR.eqv ih' (hR.ahead k (by omega) hf)
theorem stray_behind (l : List Lk) (n : Nat) (r : Lab) (i : Nat) (h0 : firstF l n < i) (hn : i < n) (hl : linkedB l i = false) : strayF l n r n (i - 1) = strayF l n r n i := by
  have h : strayF l n r (i + 1) (i - 1) = strayF l n r (i + 1) i := by
    unfold strayF
    dsimp only
    rw [hl, if_neg (by simp), if_pos h0]
    exact merge_eq _ _ _
  have := strayF_more l n r (i + 1) _ _ h (n - (i + 1))
  rwa [show i + 1 + (n - (i + 1)) = n by omega] at this
theorem stray_ahead (l : List Lk) (n : Nat) (r : Lab) (i : Nat) (h0 : i < firstF l n) : strayF l n r n i = strayF l n r n (i + 1) := by
  have hn := first_le l n
  have h : strayF l n r (i + 1) i = strayF l n r (i + 1) (i + 1) := by
    unfold strayF
    dsimp only
    rw [first_least l n i h0 hn, if_neg (by simp), if_neg (by omega)]
    exact merge_eq _ _ _
  have := strayF_more l n r (i + 1) _ _ h (n - (i + 1))
  rwa [show i + 1 + (n - (i + 1)) = n by omega] at this
theorem lastF_or (r : Lab) (lo : Nat) (k : Nat) (v : Nat) : lastF r lo k v = 0 ∨ (lo ≤ lastF r lo k v ∧ lastF r lo k v < lo + k ∧ r (lastF r lo k v) = v) := by
  induction k with
  | zero => exact .inl rfl
  | succ k ih =>
    unfold lastF
    split
    · rename_i h; exact .inr ⟨by omega, by omega, h⟩
    · rcases ih with h | ⟨h1, h2, h3⟩
      · exact .inl h
      · exact .inr ⟨h1, by omega, h3⟩
theorem lastF_ge (r : Lab) (lo : Nat) (k : Nat) (j : Nat) (h1 : lo ≤ j) (h2 : j < lo + k) : j ≤ lastF r lo k (r j) := by
  induction k with
  | zero => omega
  | succ k ih =>
    unfold lastF
    split
    · omega
    · rename_i h
      by_cases hj : j = lo + k
      · subst hj; exact absurd rfl h
      · exact ih (by omega)
theorem lastF_lt (r : Lab) (lo hi : Nat) (h : lo < hi) (v : Nat) : lastF r lo (hi - lo) v < hi := by
  rcases lastF_or r lo (hi - lo) v with h1 | ⟨_, h1, _⟩ <;> omega
def Between (R : Nat → Nat → Prop) (lo hi : Nat) : Prop := ∀ i j k, lo ≤ i → i ≤ j → j ≤ k → k < hi → R i k → R i j
def LastOk (R : Nat → Nat → Prop) (lo hi : Nat) (last : Nat → Nat) : Prop := ∀ v, last v = 0 ∨ (lo ≤ last v ∧ last v < hi ∧ R v (last v))
theorem sound_closeIn {R : Nat → Nat → Prop} (hR : Eqv R) {lo hi : Nat} (hb : Between R lo hi) {last : Nat → Nat} (hl : LastOk R lo hi last) (i : Nat) (hi0 : lo ≤ i) (f : Nat) : ∀ (k : Nat) (r : Lab) (t : Bool), i < k → Sound R r → Sound R (closeIn last i f k r t).1 := by
  induction f with
  | zero => intro k r t _ h; exact h
  | succ f ih =>
    intro k r t hk h
    unfold closeIn
    split
    · rename_i hle
      refine ih _ _ _ (by omega) (sound_merge hR h ?_)
      rcases hl (r i) with h0 | ⟨h1, h2, h3⟩
      · omega
      · exact hb i k (last (r i)) hi0 (by omega) hle h2 (hR.trans _ _ _ (h i) h3)
    · exact h
theorem sound_closeTo {R : Nat → Nat → Prop} (hR : Eqv R) {lo hi : Nat} (hb : Between R lo hi) {last : Nat → Nat} (hl : LastOk R lo hi last) (k : Nat) (s : Lab × Bool) (h : Sound R s.1) : Sound R (closeTo last lo hi k s).1 := by
  induction k with
  | zero => exact h
  | succ k ih =>
    unfold closeTo
    exact sound_closeIn hR hb hl (lo + k) (by omega) (hi + 1) _ _ _ (by omega) ih
theorem sound_closeF {R : Nat → Nat → Prop} (hR : Eqv R) {lo hi : Nat} (hb : Between R lo hi) {r : Lab} (h : Sound R r) : Sound R (closeF r lo hi).1 := by
  refine sound_closeTo hR hb (fun v => ?_) _ _ h
  rcases lastF_or r lo (hi - lo) v with h1 | ⟨h1, h2, h3⟩
  · exact .inl h1
  · refine .inr ⟨h1, by omega, ?_⟩
    have := h (lastF r lo (hi - lo) v)
    rw [h3] at this
    exact hR.symm _ _ this
theorem closeIn_false (last : Nat → Nat) (i : Nat) (f : Nat) : ∀ (k : Nat) (r : Lab) (t : Bool), (closeIn last i f k r t).2 = false → t = false ∧ (closeIn last i f k r t).1 = r ∧ ∀ j, k ≤ j → j ≤ last (r i) → j < k + f → r i = r j := by
  induction f with
  | zero => intro k r t h; exact ⟨h, rfl, fun j h1 _ h2 => by omega⟩
  | succ f ih =>
    intro k r t h
    unfold closeIn at h ⊢
    split
    · rename_i hle
      rw [if_pos hle] at h
      obtain ⟨h1, h2, h3⟩ := ih _ _ _ h
      rw [Bool.or_eq_false_iff] at h1
      have he : r i = r k := by
        have := h1.1
        unfold two at this
        simpa using this
      have hm := merge_same r i k he
      rw [hm] at h2 h3 ⊢
      refine ⟨h1.2, h2, fun j ha hb hc => ?_⟩
      by_cases hj : j = k
      · rw [hj]; exact he
      · exact h3 j (by omega) hb (by omega)
    · rename_i hle
      rw [if_neg hle] at h
      exact ⟨h, rfl, fun j ha hb hc => by omega⟩
theorem closeTo_false (last : Nat → Nat) (lo hi : Nat) (k : Nat) (s : Lab × Bool) : (closeTo last lo hi k s).2 = false → s.2 = false ∧ (closeTo last lo hi k s).1 = s.1 ∧ ∀ i j, lo ≤ i → i < lo + k → i < j → j ≤ last (s.1 i) → j < hi → s.1 i = s.1 j := by
  induction k with
  | zero => intro h; exact ⟨h, rfl, fun i j h1 h2 => by omega⟩
  | succ k ih =>
    intro h
    unfold closeTo at h ⊢
    dsimp only at h ⊢
    obtain ⟨h1, h2, h3⟩ := closeIn_false _ _ _ _ _ _ h
    obtain ⟨g1, g2, g3⟩ := ih h1
    refine ⟨g1, by rw [h2, g2], fun i j ha hb hc hd he => ?_⟩
    by_cases hi' : i = lo + k
    · subst hi'
      rw [g2] at h3
      exact h3 j (by omega) hd (by omega)
    · exact g3 i j ha (by omega) hc hd he
theorem closeF_false (r : Lab) (lo hi : Nat) (h : (closeF r lo hi).2 = false) : (closeF r lo hi).1 = r ∧ Between (fun x y => r x = r y) lo hi := by
  unfold closeF at h ⊢
  obtain ⟨_, h2, h3⟩ := closeTo_false _ _ _ _ _ h
  refine ⟨h2, fun i j k h0 h1 hjk hk he => ?_⟩
  by_cases hij : i = j
  · rw [hij]
  · have hlt : lo < hi := by omega
    have := lastF_ge r lo (hi - lo) k (by omega) (by omega)
    dsimp only at he
    rw [← he] at this
    exact h3 i j h0 (by omega) (by omega) (by show j ≤ lastF r lo (hi - lo) (r i); omega) (by omega)
theorem roundF_false (n m : Nat) (r : Lab) (h : (roundF n m r).2 = false) : (roundF n m r).1 = r ∧ Between (fun x y => r x = r y) 0 n ∧ Between (fun x y => r x = r y) n (n + m) := by
  unfold roundF at h ⊢
  dsimp only at h ⊢
  rw [Bool.or_eq_false_iff] at h
  obtain ⟨h1, h2⟩ := closeF_false _ _ _ h.1
  rw [h1] at h ⊢
  obtain ⟨h3, h4⟩ := closeF_false _ _ _ h.2
  exact ⟨h3, h2, h4⟩
theorem closeIn_keep (last : Nat → Nat) (i : Nat) (f : Nat) : ∀ (k : Nat) (r : Lab) (t : Bool) (x y : Nat), r x = r y → (closeIn last i f k r t).1 x = (closeIn last i f k r t).1 y := by
  induction f with
  | zero => intro k r t x y h; exact h
  | succ f ih =>
    intro k r t x y h
    unfold closeIn
    split
    · exact ih _ _ _ _ _ (merge_keep _ _ _ _ _ h)
    · exact h
theorem closeTo_keep (last : Nat → Nat) (lo hi k : Nat) (s : Lab × Bool) (x y : Nat) (h : s.1 x = s.1 y) : (closeTo last lo hi k s).1 x = (closeTo last lo hi k s).1 y := by
  induction k with
  | zero => exact h
  | succ k ih => unfold closeTo; exact closeIn_keep _ _ _ _ _ _ _ _ ih
theorem roundF_keep (n m : Nat) (r : Lab) (x y : Nat) (h : r x = r y) : (roundF n m r).1 x = (roundF n m r).1 y := by
  unfold roundF closeF
  exact closeTo_keep _ _ _ _ _ _ _ (closeTo_keep _ _ _ _ _ _ _ h)
theorem roundsF_keep (n m : Nat) (f : Nat) : ∀ (r : Lab) (x y : Nat), r x = r y → roundsF n m f r x = roundsF n m f r y := by
  induction f with
  | zero => intro r x y h; exact h
  | succ f ih =>
    intro r x y h
    unfold roundsF
    dsimp only
    split
    · exact ih _ _ _ (roundF_keep n m r x y h)
    · exact roundF_keep n m r x y h
theorem sound_roundF {n m : Nat} {l : List Lk} {R : Nat → Nat → Prop} (hR : Closed n m l R) {r : Lab} (h : Sound R r) : Sound R (roundF n m r).1 :=
  sound_closeF hR.eqv (fun i j k h0 h1 h2 h3 h4 => hR.conv2 i j k h0 h1 h2 h3 h4) (sound_closeF hR.eqv (fun i j k h0 h1 h2 h3 h4 => hR.conv1 i j k h1 h2 h3 h4) h)
theorem sound_roundsF {n m : Nat} {l : List Lk} {R : Nat → Nat → Prop} (hR : Closed n m l R) (f : Nat) : ∀ (r : Lab), Sound R r → Sound R (roundsF n m f r) := by
  induction f with
  | zero => intro r h; exact h
  | succ f ih =>
    intro r h
    unfold roundsF
    dsimp only
    split
    · exact ih _ (sound_roundF hR h)
    · exact sound_roundF hR h
def sumL (r : Lab) : Nat → Nat
  | 0 => 0
  | N + 1 => sumL r N + r N
theorem sumL_le {r q : Lab} (h : ∀ x, q x ≤ r x) (N : Nat) : sumL q N ≤ sumL r N := by
  induction N with
  | zero => exact Nat.le_refl _
  | succ N ih => unfold sumL; have := h N; omega
theorem sumL_lt {r q : Lab} (h : ∀ x, q x ≤ r x) (N x : Nat) (hx : x < N) (hl : q x < r x) : sumL q N < sumL r N := by
  induction N with
  | zero => omega
  | succ N ih =>
    unfold sumL
    have h1 := h N
    by_cases hxn : x = N
    · subst hxn; have := sumL_le h x; omega
    · have := ih (by omega); omega
theorem two_lt (r : Lab) (a b N : Nat) (ha : a < N) (hb : b < N) (h : two r a b = true) : sumL (merge r a b) N < sumL r N := by
  unfold two at h
  have hne : r a ≠ r b := by simpa using h
  by_cases hle : r a ≤ r b
  · refine sumL_lt (merge_le r a b) N b hb ?_
    unfold merge
    rw [if_pos (by omega)]; omega
  · refine sumL_lt (merge_le r a b) N a ha ?_
    unfold merge
    rw [if_pos (by omega)]; omega
theorem closeIn_sum (last : Nat → Nat) (i N : Nat) (hi : i < N) (hl : ∀ v, last v < N) (f : Nat) : ∀ (k : Nat) (r : Lab) (t : Bool), sumL (closeIn last i f k r t).1 N ≤ sumL r N ∧ ((closeIn last i f k r t).2 = true → t = true ∨ sumL (closeIn last i f k r t).1 N < sumL r N) := by
  induction f with
  | zero => intro k r t; exact ⟨Nat.le_refl _, fun h => .inl h⟩
  | succ f ih =>
    intro k r t
    unfold closeIn
    split
    · rename_i hle
      obtain ⟨h1, h2⟩ := ih (k + 1) (merge r i k) (two r i k || t)
      have hm := sumL_le (merge_le r i k) N
      refine ⟨Nat.le_trans h1 hm, fun h => ?_⟩
      rcases h2 h with h3 | h3
      · rw [Bool.or_eq_true] at h3
        rcases h3 with h3 | h3
        · have := two_lt r i k N hi (by have := hl (r i); omega) h3
          exact .inr (by omega)
        · exact .inl h3
      · exact .inr (by omega)
    · exact ⟨Nat.le_refl _, fun h => .inl h⟩
theorem closeTo_sum (last : Nat → Nat) (lo hi N : Nat) (hN : hi ≤ N) (hl : ∀ v, last v < N) (k : Nat) (hk : lo + k ≤ hi) (s : Lab × Bool) : sumL (closeTo last lo hi k s).1 N ≤ sumL s.1 N ∧ ((closeTo last lo hi k s).2 = true → s.2 = true ∨ sumL (closeTo last lo hi k s).1 N < sumL s.1 N) := by
  induction k with
  | zero => exact ⟨Nat.le_refl _, fun h => .inl h⟩
  | succ k ih =>
    unfold closeTo
    dsimp only
    obtain ⟨h1, h2⟩ := ih (by omega)
    obtain ⟨g1, g2⟩ := closeIn_sum last (lo + k) N (by omega) hl (hi + 1) (lo + k + 1) (closeTo last lo hi k s).1 (closeTo last lo hi k s).2
    refine ⟨by omega, fun h => ?_⟩
    rcases g2 h with h3 | h3
    · rcases h2 h3 with h4 | h4
      · exact .inl h4
      · exact .inr (by omega)
    · exact .inr (by omega)
theorem closeF_sum (r : Lab) (lo hi N : Nat) (h : lo < hi) (hN : hi ≤ N) : sumL (closeF r lo hi).1 N ≤ sumL r N ∧ ((closeF r lo hi).2 = true → sumL (closeF r lo hi).1 N < sumL r N) := by
  unfold closeF
  obtain ⟨h1, h2⟩ := closeTo_sum (lastF r lo (hi - lo)) lo hi N hN (fun v => by have := lastF_lt r lo hi h v; omega) (hi - lo) (by omega) (r, false)
  exact ⟨h1, fun h => (h2 h).resolve_left (by simp)⟩
theorem roundF_sum (n m : Nat) (hn : 0 < n) (hm : 0 < m) (r : Lab) : sumL (roundF n m r).1 (n + m) ≤ sumL r (n + m) ∧ ((roundF n m r).2 = true → sumL (roundF n m r).1 (n + m) < sumL r (n + m)) := by
  unfold roundF
  dsimp only
  obtain ⟨h1, h2⟩ := closeF_sum r 0 n (n + m) hn (by omega)
  obtain ⟨h3, h4⟩ := closeF_sum (closeF r 0 n).1 n (n + m) (n + m) (by omega) (Nat.le_refl _)
  refine ⟨by omega, fun h => ?_⟩
  rw [Bool.or_eq_true] at h
  rcases h with h | h
  · have := h2 h; omega
  · have := h4 h; omega
def endF (n m : Nat) (r : Lab) : Lab := roundsF n m (sumL r (n + m) + 1) r
theorem rounds_fuel (n m : Nat) (hn : 0 < n) (hm : 0 < m) (s : Nat) : ∀ (r : Lab) (f g : Nat), sumL r (n + m) ≤ s → sumL r (n + m) < f → sumL r (n + m) < g → roundsF n m f r = roundsF n m g r := by
  induction s with
  | zero =>
    intro r f g h hf hg
    obtain ⟨f, rfl⟩ : ∃ x, f = x + 1 := ⟨f - 1, by omega⟩
    obtain ⟨g, rfl⟩ : ∃ x, g = x + 1 := ⟨g - 1, by omega⟩
    unfold roundsF
    dsimp only
    have := (roundF_sum n m hn hm r).2
    split
    · rename_i h2; have := this h2; omega
    · rfl
  | succ s ih =>
    intro r f g h hf hg
    obtain ⟨f, rfl⟩ : ∃ x, f = x + 1 := ⟨f - 1, by omega⟩
    obtain ⟨g, rfl⟩ : ∃ x, g = x + 1 := ⟨g - 1, by omega⟩
    unfold roundsF
    dsimp only
    have := (roundF_sum n m hn hm r).2
    split
    · rename_i h2
      have := this h2
      exact ih _ _ _ (by omega) (by omega) (by omega)
    · rfl
theorem endF_step (n m : Nat) (hn : 0 < n) (hm : 0 < m) (r : Lab) : endF n m r = if (roundF n m r).2 then endF n m (roundF n m r).1 else (roundF n m r).1 := by
  conv => lhs; unfold endF
  unfold roundsF
  dsimp only
  split
  · rename_i h
    have := (roundF_sum n m hn hm r).2 h
    exact rounds_fuel n m hn hm _ _ _ _ (Nat.le_refl _) this (by omega)
  · rfl
theorem endF_end (n m : Nat) (hn : 0 < n) (hm : 0 < m) (s : Nat) : ∀ r : Lab, sumL r (n + m) ≤ s → Between (fun x y => endF n m r x = endF n m r y) 0 n ∧ Between (fun x y => endF n m r x = endF n m r y) n (n + m) := by
  induction s with
  | zero =>
    intro r h
    rw [endF_step n m hn hm r]
    split
    · rename_i h2; have := (roundF_sum n m hn hm r).2 h2; omega
    · rename_i h2
      obtain ⟨h3, h4⟩ := roundF_false n m r (by simpa using h2)
      rw [h3]; exact h4
  | succ s ih =>
    intro r h
    rw [endF_step n m hn hm r]
    split
    · rename_i h2
      have := (roundF_sum n m hn hm r).2 h2
      exact ih _ (by omega)
    · rename_i h2
      obtain ⟨h3, h4⟩ := roundF_false n m r (by simpa using h2)
      rw [h3]; exact h4
theorem endF_keep (n m : Nat) (r : Lab) (x y : Nat) (h : r x = r y) : endF n m r x = endF n m r y := roundsF_keep n m _ r x y h
def idL : Lab := fun x => x
def finL (n m : Nat) (l : List Lk) : Lab := endF n m (strayF l n (linksF n idL l) n)
theorem finL_sound {n m : Nat} {l : List Lk} {R : Nat → Nat → Prop} (hR : Closed n m l R) (hw : ∀ x ∈ l, x.a < x.b ∧ x.c < x.d) (hf : firstF l n < n) : Sound R (finL n m l) :=
  sound_roundsF hR _ _ (sound_stray hR hf n (Nat.le_refl _) _ (sound_linksF hR l (fun _ h => h) hw _ (fun x => hR.eqv.refl x)))
theorem finL_closed {n m : Nat} {l : List Lk} (hn : 0 < n) (hm : 0 < m) (hw : ∀ x ∈ l, x.a < x.b ∧ x.c < x.d) (hf : firstF l n < n) : Closed n m l (fun x y => finL n m l x = finL n m l y) where
  eqv := ⟨fun _ => rfl, fun _ _ h => h.symm, fun _ _ _ h k => h.trans k⟩
  ins := fun x hx i h1 h2 => endF_keep _ _ _ _ _ (strayF_keep _ _ _ _ _ _ ((linksF_all n l hw idL x hx).1 i h1 h2))
  outs := fun x hx i h1 h2 => endF_keep _ _ _ _ _ (strayF_keep _ _ _ _ _ _ ((linksF_all n l hw idL x hx).2.1 i h1 h2))
  both := fun x hx => endF_keep _ _ _ _ _ (strayF_keep _ _ _ _ _ _ (linksF_all n l hw idL x hx).2.2)
  stray := fun i h0 hi hl => by
    by_cases hif : firstF l n < i
    · exact endF_keep _ _ _ _ _ (stray_behind l n _ i hif hi hl)
    · have hne : i ≠ firstF l n := fun e => by
        have := first_linked l n hf
        rw [← e, hl] at this
        cases this
      have := stray_ahead l n (linksF n idL l) (i - 1) (by omega)
      rw [show i - 1 + 1 = i by omega] at this
      exact endF_keep _ _ _ _ _ this
  ahead := fun i hi _ => endF_keep _ _ _ _ _ (stray_ahead l n _ i hi)
  conv1 := fun i j k h1 h2 h3 h4 => (endF_end n m hn hm _ _ (Nat.le_refl _)).1 i j k (Nat.zero_le _) h1 h2 h3 h4
  conv2 := fun i j k h0 h1 h2 h3 h4 => (endF_end n m hn hm _ _ (Nat.le_refl _)).2 i j k h0 h1 h2 h3 h4
end Go.Proofs.Ytohhobcipfmkbaa.UFinest
namespace Go.Proofs.Ytohhobcipfmkbaa.UFinest
set_option linter.unusedVariables false
set_option linter.unusedSimpArgs false
def setL (L : Lab) (lo hi v : Nat) : Lab := fun x => if lo ≤ x ∧ x < hi then v else L x
def chg (L : Lab) (lo : Nat) (v : Nat) : Nat → Bool
  | 0 => false
  | k + 1 => chg L lo v k || decide (L (lo + k) ≠ v)
def leastL (L : Lab) (lo : Nat) : Nat → Nat
  | 0 => L lo
  | k + 1 => min (leastL L lo k) (L (lo + k))
def hullL (L : Lab) (lo v : Nat) : Nat → Nat × Nat
  | 0 => (0, 0)
  | k + 1 => let s := hullL L lo v k
    if L (lo + k) = v then ((if s.2 = 0 then k else s.1), k + 1) else s
theorem hullL_is (L : Lab) (lo v k : Nat) : ((hullL L lo v k) = (0, 0) ∧ ∀ i, i < k → L (lo + i) ≠ v) ∨ ((hullL L lo v k).1 < (hullL L lo v k).2 ∧ (hullL L lo v k).2 ≤ k ∧ L (lo + (hullL L lo v k).1) = v ∧ L (lo + (hullL L lo v k).2 - 1) = v ∧ ∀ i, i < k → L (lo + i) = v → (hullL L lo v k).1 ≤ i ∧ i < (hullL L lo v k).2) := by
  induction k with
  | zero => exact .inl ⟨rfl, fun i h => by omega⟩
  | succ k ih =>
    unfold hullL
    dsimp only
    split
    · rename_i h
      right
      rcases ih with ⟨h1, h2⟩ | ⟨h1, h2, h3, h4, h5⟩
      · rw [h1]
        refine ⟨by simp, by simp, by simpa using h, by simpa [Nat.add_sub_assoc] using h, fun i hi he => ?_⟩
        by_cases hik : i = k
        · subst hik; simp
        · exact absurd he (h2 i (by omega))
      · rw [if_neg (by omega)]
        refine ⟨by dsimp only; omega, by dsimp only; omega, h3, by dsimp only; rw [show lo + (k + 1) - 1 = lo + k by omega]; exact h, fun i hi he => ?_⟩
        dsimp only
        by_cases hik : i = k
        · subst hik; omega
        · have := h5 i (by omega) he; omega
    · rename_i h
      rcases ih with ⟨h1, h2⟩ | ⟨h1, h2, h3, h4, h5⟩
      · left
        refine ⟨h1, fun i hi he => ?_⟩
        by_cases hik : i = k
        · subst hik; exact h he
        · exact h2 i (by omega) he
      · right
        refine ⟨h1, by omega, h3, h4, fun i hi he => ?_⟩
        by_cases hik : i = k
        · subst hik; exact absurd he h
        · exact h5 i (by omega) he
def wholeTo (L : Lab) (lo len : Nat) : Nat → Lab × Bool
  | 0 => (L, false)
  | k + 1 => let q := wholeTo L lo len k
    let s := hullL q.1 lo (q.1 (lo + k)) len
    let v := leastL q.1 (lo + s.1) (s.2 - s.1)
    (setL q.1 (lo + s.1) (lo + s.1 + (s.2 - s.1)) v, chg q.1 (lo + s.1) v (s.2 - s.1) || q.2)
end Go.Proofs.Ytohhobcipfmkbaa.UFinest
