/- Plain law of the finest map: places joined by links, by what lies between, until nothing changes: two ways to reckon it come to the same sets. No Go and no memory in it. -/
namespace Go.Proofs.Ytohhobcipfmkbaa.UFinest
set_option linter.unusedVariables false
set_option linter.unusedSimpArgs false
abbrev Lab := Nat → Nat
/-- two sets become one: the least place stands for it -/
def merge (r : Lab) (a b : Nat) : Lab := fun x => if r x = max (r a) (r b) then min (r a) (r b) else r x
def two (r : Lab) (a b : Nat) : Bool := decide (r a ≠ r b)
theorem merge_eq (r : Lab) (a b : Nat) : merge r a b a = merge r a b b := by
  unfold merge
  by_cases h : r a ≤ r b
  · rw [Nat.max_eq_right h, Nat.min_eq_left h, if_pos rfl]
    split <;> rfl
  · rw [Nat.max_eq_left (by omega), Nat.min_eq_right (by omega), if_pos rfl]
    split <;> rfl
theorem merge_keep (r : Lab) (a b x y : Nat) (h : r x = r y) : merge r a b x = merge r a b y := by unfold merge; rw [h]
theorem merge_same (r : Lab) (a b : Nat) (h : r a = r b) : merge r a b = r := by
  funext x
  unfold merge
  rw [h, Nat.max_self, Nat.min_self]
  split
  · rename_i h1; exact h1.symm
  · rfl
theorem merge_le (r : Lab) (a b x : Nat) : merge r a b x ≤ r x := by
  unfold merge
  split
  · rename_i h; rw [h]; omega
  · exact Nat.le_refl _
/-- an equivalence on the places -/
structure Eqv (R : Nat → Nat → Prop) : Prop where
  refl : ∀ x, R x x
  symm : ∀ x y, R x y → R y x
  trans : ∀ x y z, R x y → R y z → R x z
/-- what stands for a place belongs with it -/
def Sound (R : Nat → Nat → Prop) (r : Lab) : Prop := ∀ x, R x (r x)
theorem Sound.eq {R : Nat → Nat → Prop} {r : Lab} (hR : Eqv R) (h : Sound R r) {x y : Nat} (e : r x = r y) : R x y := hR.trans _ _ _ (h x) (e ▸ hR.symm _ _ (h y))
theorem sound_merge {R : Nat → Nat → Prop} {r : Lab} (hR : Eqv R) (h : Sound R r) {a b : Nat} (hab : R a b) : Sound R (merge r a b) := by
  intro x
  unfold merge
  split
  · rename_i hx
    have h1 : R (r a) (r b) := hR.trans _ _ _ (hR.symm _ _ (h a)) (hR.trans _ _ _ hab (h b))
    have hxx := h x
    rw [hx] at hxx
    by_cases hle : r a ≤ r b
    · rw [Nat.max_eq_right hle] at hxx
      rw [Nat.min_eq_left hle]
      exact hR.trans _ _ _ hxx (hR.symm _ _ h1)
    · rw [Nat.max_eq_left (by omega)] at hxx
      rw [Nat.min_eq_right (by omega)]
      exact hR.trans _ _ _ hxx h1
  · exact h x
/-- a link: places of what goes in from a on, below b; of what comes out from c on, below d -/
structure Lk where
  a : Nat
  b : Nat
  c : Nat
  d : Nat
def allF (r : Lab) (base : Nat) : Nat → Lab
  | 0 => r
  | k + 1 => merge (allF r base k) base (base + k + 1)
def linkF (n : Nat) (r : Lab) (x : Lk) : Lab := merge (allF (allF r x.a (x.b - x.a - 1)) (n + x.c) (x.d - x.c - 1)) x.a (n + x.c)
def linksF (n : Nat) (r : Lab) (l : List Lk) : Lab := l.foldl (linkF n) r
def linkedB (l : List Lk) (i : Nat) : Bool := l.any fun x => decide (x.a ≤ i) && decide (i < x.b)
/-- the first place in a link -/
def firstF (l : List Lk) (n : Nat) : Nat := (List.range n).findIdx (linkedB l)
def strayF (l : List Lk) (n : Nat) (r : Lab) : Nat → Lab
  | 0 => r
  | k + 1 => let q := strayF l n r k
    if linkedB l k then q else if firstF l n < k then merge q (k - 1) k else merge q k (k + 1)
/-- the last place of a side that has a number -/
def lastF (r : Lab) (lo : Nat) : Nat → Nat → Nat
  | 0 => fun _ => 0
  | k + 1 => fun v => if r (lo + k) = v then lo + k else lastF r lo k v
def closeIn (last : Nat → Nat) (i : Nat) : Nat → Nat → Lab → Bool → Lab × Bool
  | 0, _, r, t => (r, t)
  | f + 1, k, r, t => if k ≤ last (r i) then closeIn last i f (k + 1) (merge r i k) (two r i k || t) else (r, t)
def closeTo (last : Nat → Nat) (lo hi : Nat) : Nat → Lab × Bool → Lab × Bool
  | 0, s => s
  | k + 1, s => let q := closeTo last lo hi k s
    closeIn last (lo + k) (hi + 1) (lo + k + 1) q.1 q.2
def closeF (r : Lab) (lo hi : Nat) : Lab × Bool := closeTo (lastF r lo (hi - lo)) lo hi (hi - lo) (r, false)
def roundF (n m : Nat) (r : Lab) : Lab × Bool :=
  let q := closeF r 0 n
  let p := closeF q.1 n (n + m)
  (p.1, q.2 || p.2)
def roundsF (n m : Nat) : Nat → Lab → Lab
  | 0, r => r
  | f + 1, r => let q := roundF n m r
    if q.2 then roundsF n m f q.1 else q.1
/-! ### what is joined -/
/-- what a map must join: the links, the strays, what lies between -/
structure Closed (n m : Nat) (l : List Lk) (R : Nat → Nat → Prop) : Prop where
  eqv : Eqv R
  ins : ∀ x ∈ l, ∀ i, x.a ≤ i → i < x.b → R x.a i
  outs : ∀ x ∈ l, ∀ i, x.c ≤ i → i < x.d → R (n + x.c) (n + i)
  both : ∀ x ∈ l, R x.a (n + x.c)
  stray : ∀ i, 0 < i → i < n → linkedB l i = false → R (i - 1) i
  ahead : ∀ i, i < firstF l n → firstF l n < n → R i (i + 1)
  conv1 : ∀ i j k, i ≤ j → j ≤ k → k < n → R i k → R i j
  conv2 : ∀ i j k, n ≤ i → i ≤ j → j ≤ k → k < n + m → R i k → R i j
theorem sound_allF {R : Nat → Nat → Prop} (hR : Eqv R) {r : Lab} (h : Sound R r) (base k : Nat) (hj : ∀ i, base ≤ i → i ≤ base + k → R base i) : Sound R (allF r base k) := by
  induction k with
  | zero => exact h
  | succ k ih => exact sound_merge hR (ih fun i h1 h2 => hj i h1 (by omega)) (hj _ (by omega) (by omega))
theorem allF_eq (r : Lab) (base k : Nat) : ∀ i, base ≤ i → i ≤ base + k → allF r base k base = allF r base k i := by
  induction k with
  | zero => intro i h1 h2; rw [show i = base by omega]
  | succ k ih =>
    intro i h1 h2
    unfold allF
    by_cases hi : i = base + k + 1
    · rw [hi]; exact merge_eq _ _ _
    · exact merge_keep _ _ _ _ _ (ih i h1 (by omega))
theorem allF_keep (r : Lab) (base k x y : Nat) (h : r x = r y) : allF r base k x = allF r base k y := by
  induction k with
  | zero => exact h
  | succ k ih => exact merge_keep _ _ _ _ _ ih
theorem allF_le (r : Lab) (base k x : Nat) : allF r base k x ≤ r x := by
  induction k with
  | zero => exact Nat.le_refl _
  | succ k ih => exact Nat.le_trans (merge_le _ _ _ _) ih
theorem linkF_keep (n : Nat) (r : Lab) (z : Lk) (x y : Nat) (h : r x = r y) : linkF n r z x = linkF n r z y := merge_keep _ _ _ _ _ (allF_keep _ _ _ _ _ (allF_keep _ _ _ _ _ h))
theorem linkF_le (n : Nat) (r : Lab) (z : Lk) (x : Nat) : linkF n r z x ≤ r x := Nat.le_trans (merge_le _ _ _ _) (Nat.le_trans (allF_le _ _ _ _) (allF_le _ _ _ _))
theorem linksF_keep (n : Nat) (l : List Lk) : ∀ (r : Lab) (x y : Nat), r x = r y → linksF n r l x = linksF n r l y := by
  induction l with
  | nil => intro r x y h; exact h
  | cons z t ih => intro r x y h; exact ih _ _ _ (linkF_keep n r z x y h)
theorem linksF_le (n : Nat) (l : List Lk) : ∀ (r : Lab) (x : Nat), linksF n r l x ≤ r x := by
  induction l with
  | nil => intro r x; exact Nat.le_refl _
  | cons z t ih => intro r x; exact Nat.le_trans (ih _ _) (linkF_le n r z x)
theorem sound_linksF {n m : Nat} {l0 : List Lk} {R : Nat → Nat → Prop} (hR : Closed n m l0 R) (l : List Lk) (hl : ∀ x ∈ l, x ∈ l0) (hw : ∀ x ∈ l, x.a < x.b ∧ x.c < x.d) : ∀ r, Sound R r → Sound R (linksF n r l) := by
  induction l with
  | nil => intro r h; exact h
  | cons z t ih =>
    intro r h
    have hz := hl z List.mem_cons_self
    have hzw := hw z List.mem_cons_self
    refine ih (fun x hx => hl x (List.mem_cons_of_mem _ hx)) (fun x hx => hw x (List.mem_cons_of_mem _ hx)) _ ?_
    refine sound_merge hR.eqv (sound_allF hR.eqv (sound_allF hR.eqv h _ _ ?_) _ _ ?_) (hR.both z hz)
    · intro i h1 h2; exact hR.ins z hz i h1 (by omega)
    · intro i h1 h2
      have := hR.outs z hz (i - n) (by omega) (by omega)
      rwa [show n + (i - n) = i by omega] at this
theorem linkF_ins (n : Nat) (r : Lab) (z : Lk) (hz : z.a < z.b) (i : Nat) (h1 : z.a ≤ i) (h2 : i < z.b) : linkF n r z z.a = linkF n r z i := merge_keep _ _ _ _ _ (allF_keep _ _ _ _ _ (allF_eq _ _ _ i h1 (by omega)))
theorem linkF_outs (n : Nat) (r : Lab) (z : Lk) (hz : z.c < z.d) (i : Nat) (h1 : z.c ≤ i) (h2 : i < z.d) : linkF n r z (n + z.c) = linkF n r z (n + i) := merge_keep _ _ _ _ _ (allF_eq _ _ _ (n + i) (by omega) (by omega))
theorem linkF_both (n : Nat) (r : Lab) (z : Lk) : linkF n r z z.a = linkF n r z (n + z.c) := merge_eq _ _ _
theorem linksF_all (n : Nat) (l : List Lk) (hw : ∀ x ∈ l, x.a < x.b ∧ x.c < x.d) : ∀ r, ∀ z ∈ l, (∀ i, z.a ≤ i → i < z.b → linksF n r l z.a = linksF n r l i) ∧ (∀ i, z.c ≤ i → i < z.d → linksF n r l (n + z.c) = linksF n r l (n + i)) ∧ linksF n r l z.a = linksF n r l (n + z.c) := by
  induction l with
  | nil => intro r z h; simp at h
  | cons y t ih =>
    intro r z hz
    rcases List.mem_cons.1 hz with rfl | hz
    · have := hw z List.mem_cons_self
      exact ⟨fun i h1 h2 => linksF_keep n t _ _ _ (linkF_ins n r z this.1 i h1 h2), fun i h1 h2 => linksF_keep n t _ _ _ (linkF_outs n r z this.2 i h1 h2), linksF_keep n t _ _ _ (linkF_both n r z)⟩
    · exact ih (fun x hx => hw x (List.mem_cons_of_mem _ hx)) _ z hz
/-! ### strays -/
theorem strayF_keep (l : List Lk) (n : Nat) (r : Lab) (k x y : Nat) (h : r x = r y) : strayF l n r k x = strayF l n r k y := by
  induction k with
  | zero => exact h
  | succ k ih =>
    unfold strayF
    dsimp only
    split
    · exact ih
    · split <;> exact merge_keep _ _ _ _ _ ih
theorem strayF_le (l : List Lk) (n : Nat) (r : Lab) (k x : Nat) : strayF l n r k x ≤ r x := by
  induction k with
  | zero => exact Nat.le_refl _
  | succ k ih =>
    unfold strayF
    dsimp only
    split
    · exact ih
    · split <;> exact Nat.le_trans (merge_le _ _ _ _) ih
theorem strayF_more (l : List Lk) (n : Nat) (r : Lab) (k x y : Nat) (h : strayF l n r k x = strayF l n r k y) : ∀ d, strayF l n r (k + d) x = strayF l n r (k + d) y := by
  intro d
  induction d with
  | zero => exact h
  | succ d ih =>
    rw [show k + (d + 1) = (k + d) + 1 by omega]
    unfold strayF
    dsimp only
    split
    · exact ih
    · split <;> exact merge_keep _ _ _ _ _ ih
theorem first_linked (l : List Lk) (n : Nat) (h : firstF l n < n) : linkedB l (firstF l n) = true := by
  unfold firstF at h ⊢
  have := List.findIdx_getElem (xs := List.range n) (p := linkedB l) (w := by simpa using h)
  simpa using this
theorem first_least (l : List Lk) (n i : Nat) (h : i < firstF l n) (hn : firstF l n ≤ n) : linkedB l i = false := by
  unfold firstF at h hn
  have := List.not_of_lt_findIdx (xs := List.range n) (p := linkedB l) h
  simpa using this
theorem first_le (l : List Lk) (n : Nat) : firstF l n ≤ n := by
  unfold firstF
  have := List.findIdx_le_length (xs := List.range n) (p := linkedB l)
  simpa using this
theorem sound_stray {n m : Nat} {l : List Lk} {R : Nat → Nat → Prop} (hR : Closed n m l R) (hf : firstF l n < n) (k : Nat) (hk : k ≤ n) : ∀ r, Sound R r → Sound R (strayF l n r k) := by
  induction k with
  | zero => intro r h; exact h
  | succ k ih =>
    intro r h
    have ih' := ih (by omega) r h
    unfold strayF
    dsimp only
    split
    · exact ih'
    · rename_i hl
      split
      · rename_i h1
        exact sound_merge hR.eqv ih' (hR.stray k (by omega) (by omega) (by simpa using hl))
      · rename_i h1
        have : k ≠ firstF l n := fun e => hl (by rw [e]; exact first_linked l n hf)
        exact sound_merge hR.eqv ih' (hR.ahead k (by omega) hf)
theorem stray_behind (l : List Lk) (n : Nat) (r : Lab) (i : Nat) (h0 : firstF l n < i) (hn : i < n) (hl : linkedB l i = false) : strayF l n r n (i - 1) = strayF l n r n i := by
  have h : strayF l n r (i + 1) (i - 1) = strayF l n r (i + 1) i := by
    unfold strayF
    dsimp only
    rw [hl, if_neg (by simp), if_pos h0]
    exact merge_eq _ _ _
  have := strayF_more l n r (i + 1) _ _ h (n - (i + 1))
  rwa [show i + 1 + (n - (i + 1)) = n by omega] at this
theorem stray_ahead (l : List Lk) (n : Nat) (r : Lab) (i : Nat) (h0 : i < firstF l n) : strayF l n r n i = strayF l n r n (i + 1) := by
  have hn := first_le l n
  have h : strayF l n r (i + 1) i = strayF l n r (i + 1) (i + 1) := by
    unfold strayF
    dsimp only
    rw [first_least l n i h0 hn, if_neg (by simp), if_neg (by omega)]
    exact merge_eq _ _ _
  have := strayF_more l n r (i + 1) _ _ h (n - (i + 1))
  rwa [show i + 1 + (n - (i + 1)) = n by omega] at this
/-! ### what lies between -/
theorem lastF_or (r : Lab) (lo : Nat) (k : Nat) (v : Nat) : lastF r lo k v = 0 ∨ (lo ≤ lastF r lo k v ∧ lastF r lo k v < lo + k ∧ r (lastF r lo k v) = v) := by
  induction k with
  | zero => exact .inl rfl
  | succ k ih =>
    unfold lastF
    split
    · rename_i h; exact .inr ⟨by omega, by omega, h⟩
    · rcases ih with h | ⟨h1, h2, h3⟩
      · exact .inl h
      · exact .inr ⟨h1, by omega, h3⟩
theorem lastF_ge (r : Lab) (lo : Nat) (k : Nat) (j : Nat) (h1 : lo ≤ j) (h2 : j < lo + k) : j ≤ lastF r lo k (r j) := by
  induction k with
  | zero => omega
  | succ k ih =>
    unfold lastF
    split
    · omega
    · rename_i h
      by_cases hj : j = lo + k
      · subst hj; exact absurd rfl h
      · exact ih (by omega)
theorem lastF_lt (r : Lab) (lo hi : Nat) (h : lo < hi) (v : Nat) : lastF r lo (hi - lo) v < hi := by
  rcases lastF_or r lo (hi - lo) v with h1 | ⟨_, h1, _⟩ <;> omega
def Between (R : Nat → Nat → Prop) (lo hi : Nat) : Prop := ∀ i j k, lo ≤ i → i ≤ j → j ≤ k → k < hi → R i k → R i j
def LastOk (R : Nat → Nat → Prop) (lo hi : Nat) (last : Nat → Nat) : Prop := ∀ v, last v = 0 ∨ (lo ≤ last v ∧ last v < hi ∧ R v (last v))
theorem sound_closeIn {R : Nat → Nat → Prop} (hR : Eqv R) {lo hi : Nat} (hb : Between R lo hi) {last : Nat → Nat} (hl : LastOk R lo hi last) (i : Nat) (hi0 : lo ≤ i) (f : Nat) : ∀ (k : Nat) (r : Lab) (t : Bool), i < k → Sound R r → Sound R (closeIn last i f k r t).1 := by
  induction f with
  | zero => intro k r t _ h; exact h
  | succ f ih =>
    intro k r t hk h
    unfold closeIn
    split
    · rename_i hle
      refine ih _ _ _ (by omega) (sound_merge hR h ?_)
      rcases hl (r i) with h0 | ⟨h1, h2, h3⟩
      · omega
      · exact hb i k (last (r i)) hi0 (by omega) hle h2 (hR.trans _ _ _ (h i) h3)
    · exact h
theorem sound_closeTo {R : Nat → Nat → Prop} (hR : Eqv R) {lo hi : Nat} (hb : Between R lo hi) {last : Nat → Nat} (hl : LastOk R lo hi last) (k : Nat) (s : Lab × Bool) (h : Sound R s.1) : Sound R (closeTo last lo hi k s).1 := by
  induction k with
  | zero => exact h
  | succ k ih =>
    unfold closeTo
    exact sound_closeIn hR hb hl (lo + k) (by omega) (hi + 1) _ _ _ (by omega) ih
theorem sound_closeF {R : Nat → Nat → Prop} (hR : Eqv R) {lo hi : Nat} (hb : Between R lo hi) {r : Lab} (h : Sound R r) : Sound R (closeF r lo hi).1 := by
  refine sound_closeTo hR hb (fun v => ?_) _ _ h
  rcases lastF_or r lo (hi - lo) v with h1 | ⟨h1, h2, h3⟩
  · exact .inl h1
  · refine .inr ⟨h1, by omega, ?_⟩
    have := h (lastF r lo (hi - lo) v)
    rw [h3] at this
    exact hR.symm _ _ this
theorem closeIn_false (last : Nat → Nat) (i : Nat) (f : Nat) : ∀ (k : Nat) (r : Lab) (t : Bool), (closeIn last i f k r t).2 = false → t = false ∧ (closeIn last i f k r t).1 = r ∧ ∀ j, k ≤ j → j ≤ last (r i) → j < k + f → r i = r j := by
  induction f with
  | zero => intro k r t h; exact ⟨h, rfl, fun j h1 _ h2 => by omega⟩
  | succ f ih =>
    intro k r t h
    unfold closeIn at h ⊢
    split
    · rename_i hle
      rw [if_pos hle] at h
      obtain ⟨h1, h2, h3⟩ := ih _ _ _ h
      rw [Bool.or_eq_false_iff] at h1
      have he : r i = r k := by
        have := h1.1
        unfold two at this
        simpa using this
      have hm := merge_same r i k he
      rw [hm] at h2 h3 ⊢
      refine ⟨h1.2, h2, fun j ha hb hc => ?_⟩
      by_cases hj : j = k
      · rw [hj]; exact he
      · exact h3 j (by omega) hb (by omega)
    · rename_i hle
      rw [if_neg hle] at h
      exact ⟨h, rfl, fun j ha hb hc => by omega⟩
theorem closeTo_false (last : Nat → Nat) (lo hi : Nat) (k : Nat) (s : Lab × Bool) : (closeTo last lo hi k s).2 = false → s.2 = false ∧ (closeTo last lo hi k s).1 = s.1 ∧ ∀ i j, lo ≤ i → i < lo + k → i < j → j ≤ last (s.1 i) → j < hi → s.1 i = s.1 j := by
  induction k with
  | zero => intro h; exact ⟨h, rfl, fun i j h1 h2 => by omega⟩
  | succ k ih =>
    intro h
    unfold closeTo at h ⊢
    dsimp only at h ⊢
    obtain ⟨h1, h2, h3⟩ := closeIn_false _ _ _ _ _ _ h
    obtain ⟨g1, g2, g3⟩ := ih h1
    refine ⟨g1, by rw [h2, g2], fun i j ha hb hc hd he => ?_⟩
    by_cases hi' : i = lo + k
    · subst hi'
      rw [g2] at h3
      exact h3 j (by omega) hd (by omega)
    · exact g3 i j ha (by omega) hc hd he
/-- where nothing is turned, all between places that have one number has it -/
theorem closeF_false (r : Lab) (lo hi : Nat) (h : (closeF r lo hi).2 = false) : (closeF r lo hi).1 = r ∧ Between (fun x y => r x = r y) lo hi := by
  unfold closeF at h ⊢
  obtain ⟨_, h2, h3⟩ := closeTo_false _ _ _ _ _ h
  refine ⟨h2, fun i j k h0 h1 hjk hk he => ?_⟩
  by_cases hij : i = j
  · rw [hij]
  · have hlt : lo < hi := by omega
    have := lastF_ge r lo (hi - lo) k (by omega) (by omega)
    dsimp only at he
    rw [← he] at this
    exact h3 i j h0 (by omega) (by omega) (by show j ≤ lastF r lo (hi - lo) (r i); omega) (by omega)
theorem roundF_false (n m : Nat) (r : Lab) (h : (roundF n m r).2 = false) : (roundF n m r).1 = r ∧ Between (fun x y => r x = r y) 0 n ∧ Between (fun x y => r x = r y) n (n + m) := by
  unfold roundF at h ⊢
  dsimp only at h ⊢
  rw [Bool.or_eq_false_iff] at h
  obtain ⟨h1, h2⟩ := closeF_false _ _ _ h.1
  rw [h1] at h ⊢
  obtain ⟨h3, h4⟩ := closeF_false _ _ _ h.2
  exact ⟨h3, h2, h4⟩
/-! ### numbers that were one stay one; numbers do not grow -/
theorem closeIn_keep (last : Nat → Nat) (i : Nat) (f : Nat) : ∀ (k : Nat) (r : Lab) (t : Bool) (x y : Nat), r x = r y → (closeIn last i f k r t).1 x = (closeIn last i f k r t).1 y := by
  induction f with
  | zero => intro k r t x y h; exact h
  | succ f ih =>
    intro k r t x y h
    unfold closeIn
    split
    · exact ih _ _ _ _ _ (merge_keep _ _ _ _ _ h)
    · exact h
theorem closeTo_keep (last : Nat → Nat) (lo hi k : Nat) (s : Lab × Bool) (x y : Nat) (h : s.1 x = s.1 y) : (closeTo last lo hi k s).1 x = (closeTo last lo hi k s).1 y := by
  induction k with
  | zero => exact h
  | succ k ih => unfold closeTo; exact closeIn_keep _ _ _ _ _ _ _ _ ih
theorem roundF_keep (n m : Nat) (r : Lab) (x y : Nat) (h : r x = r y) : (roundF n m r).1 x = (roundF n m r).1 y := by
  unfold roundF closeF
  exact closeTo_keep _ _ _ _ _ _ _ (closeTo_keep _ _ _ _ _ _ _ h)
theorem roundsF_keep (n m : Nat) (f : Nat) : ∀ (r : Lab) (x y : Nat), r x = r y → roundsF n m f r x = roundsF n m f r y := by
  induction f with
  | zero => intro r x y h; exact h
  | succ f ih =>
    intro r x y h
    unfold roundsF
    dsimp only
    split
    · exact ih _ _ _ (roundF_keep n m r x y h)
    · exact roundF_keep n m r x y h
theorem sound_roundF {n m : Nat} {l : List Lk} {R : Nat → Nat → Prop} (hR : Closed n m l R) {r : Lab} (h : Sound R r) : Sound R (roundF n m r).1 :=
  sound_closeF hR.eqv (fun i j k h0 h1 h2 h3 h4 => hR.conv2 i j k h0 h1 h2 h3 h4) (sound_closeF hR.eqv (fun i j k h0 h1 h2 h3 h4 => hR.conv1 i j k h1 h2 h3 h4) h)
theorem sound_roundsF {n m : Nat} {l : List Lk} {R : Nat → Nat → Prop} (hR : Closed n m l R) (f : Nat) : ∀ (r : Lab), Sound R r → Sound R (roundsF n m f r) := by
  induction f with
  | zero => intro r h; exact h
  | succ f ih =>
    intro r h
    unfold roundsF
    dsimp only
    split
    · exact ih _ (sound_roundF hR h)
    · exact sound_roundF hR h
/-! ### it ends: the numbers' sum falls -/
def sumL (r : Lab) : Nat → Nat
  | 0 => 0
  | N + 1 => sumL r N + r N
theorem sumL_le {r q : Lab} (h : ∀ x, q x ≤ r x) (N : Nat) : sumL q N ≤ sumL r N := by
  induction N with
  | zero => exact Nat.le_refl _
  | succ N ih => unfold sumL; have := h N; omega
theorem sumL_lt {r q : Lab} (h : ∀ x, q x ≤ r x) (N x : Nat) (hx : x < N) (hl : q x < r x) : sumL q N < sumL r N := by
  induction N with
  | zero => omega
  | succ N ih =>
    unfold sumL
    have h1 := h N
    by_cases hxn : x = N
    · subst hxn; have := sumL_le h x; omega
    · have := ih (by omega); omega
theorem two_lt (r : Lab) (a b N : Nat) (ha : a < N) (hb : b < N) (h : two r a b = true) : sumL (merge r a b) N < sumL r N := by
  unfold two at h
  have hne : r a ≠ r b := by simpa using h
  by_cases hle : r a ≤ r b
  · refine sumL_lt (merge_le r a b) N b hb ?_
    unfold merge
    rw [if_pos (by omega)]; omega
  · refine sumL_lt (merge_le r a b) N a ha ?_
    unfold merge
    rw [if_pos (by omega)]; omega
theorem closeIn_sum (last : Nat → Nat) (i N : Nat) (hi : i < N) (hl : ∀ v, last v < N) (f : Nat) : ∀ (k : Nat) (r : Lab) (t : Bool), sumL (closeIn last i f k r t).1 N ≤ sumL r N ∧ ((closeIn last i f k r t).2 = true → t = true ∨ sumL (closeIn last i f k r t).1 N < sumL r N) := by
  induction f with
  | zero => intro k r t; exact ⟨Nat.le_refl _, fun h => .inl h⟩
  | succ f ih =>
    intro k r t
    unfold closeIn
    split
    · rename_i hle
      obtain ⟨h1, h2⟩ := ih (k + 1) (merge r i k) (two r i k || t)
      have hm := sumL_le (merge_le r i k) N
      refine ⟨Nat.le_trans h1 hm, fun h => ?_⟩
      rcases h2 h with h3 | h3
      · rw [Bool.or_eq_true] at h3
        rcases h3 with h3 | h3
        · have := two_lt r i k N hi (by have := hl (r i); omega) h3
          exact .inr (by omega)
        · exact .inl h3
      · exact .inr (by omega)
    · exact ⟨Nat.le_refl _, fun h => .inl h⟩
theorem closeTo_sum (last : Nat → Nat) (lo hi N : Nat) (hN : hi ≤ N) (hl : ∀ v, last v < N) (k : Nat) (hk : lo + k ≤ hi) (s : Lab × Bool) : sumL (closeTo last lo hi k s).1 N ≤ sumL s.1 N ∧ ((closeTo last lo hi k s).2 = true → s.2 = true ∨ sumL (closeTo last lo hi k s).1 N < sumL s.1 N) := by
  induction k with
  | zero => exact ⟨Nat.le_refl _, fun h => .inl h⟩
  | succ k ih =>
    unfold closeTo
    dsimp only
    obtain ⟨h1, h2⟩ := ih (by omega)
    obtain ⟨g1, g2⟩ := closeIn_sum last (lo + k) N (by omega) hl (hi + 1) (lo + k + 1) (closeTo last lo hi k s).1 (closeTo last lo hi k s).2
    refine ⟨by omega, fun h => ?_⟩
    rcases g2 h with h3 | h3
    · rcases h2 h3 with h4 | h4
      · exact .inl h4
      · exact .inr (by omega)
    · exact .inr (by omega)
theorem closeF_sum (r : Lab) (lo hi N : Nat) (h : lo < hi) (hN : hi ≤ N) : sumL (closeF r lo hi).1 N ≤ sumL r N ∧ ((closeF r lo hi).2 = true → sumL (closeF r lo hi).1 N < sumL r N) := by
  unfold closeF
  obtain ⟨h1, h2⟩ := closeTo_sum (lastF r lo (hi - lo)) lo hi N hN (fun v => by have := lastF_lt r lo hi h v; omega) (hi - lo) (by omega) (r, false)
  exact ⟨h1, fun h => (h2 h).resolve_left (by simp)⟩
theorem roundF_sum (n m : Nat) (hn : 0 < n) (hm : 0 < m) (r : Lab) : sumL (roundF n m r).1 (n + m) ≤ sumL r (n + m) ∧ ((roundF n m r).2 = true → sumL (roundF n m r).1 (n + m) < sumL r (n + m)) := by
  unfold roundF
  dsimp only
  obtain ⟨h1, h2⟩ := closeF_sum r 0 n (n + m) hn (by omega)
  obtain ⟨h3, h4⟩ := closeF_sum (closeF r 0 n).1 n (n + m) (n + m) (by omega) (Nat.le_refl _)
  refine ⟨by omega, fun h => ?_⟩
  rw [Bool.or_eq_true] at h
  rcases h with h | h
  · have := h2 h; omega
  · have := h4 h; omega
/-- the whole -/
def endF (n m : Nat) (r : Lab) : Lab := roundsF n m (sumL r (n + m) + 1) r
theorem rounds_fuel (n m : Nat) (hn : 0 < n) (hm : 0 < m) (s : Nat) : ∀ (r : Lab) (f g : Nat), sumL r (n + m) ≤ s → sumL r (n + m) < f → sumL r (n + m) < g → roundsF n m f r = roundsF n m g r := by
  induction s with
  | zero =>
    intro r f g h hf hg
    obtain ⟨f, rfl⟩ : ∃ x, f = x + 1 := ⟨f - 1, by omega⟩
    obtain ⟨g, rfl⟩ : ∃ x, g = x + 1 := ⟨g - 1, by omega⟩
    unfold roundsF
    dsimp only
    have := (roundF_sum n m hn hm r).2
    split
    · rename_i h2; have := this h2; omega
    · rfl
  | succ s ih =>
    intro r f g h hf hg
    obtain ⟨f, rfl⟩ : ∃ x, f = x + 1 := ⟨f - 1, by omega⟩
    obtain ⟨g, rfl⟩ : ∃ x, g = x + 1 := ⟨g - 1, by omega⟩
    unfold roundsF
    dsimp only
    have := (roundF_sum n m hn hm r).2
    split
    · rename_i h2
      have := this h2
      exact ih _ _ _ (by omega) (by omega) (by omega)
    · rfl
theorem endF_step (n m : Nat) (hn : 0 < n) (hm : 0 < m) (r : Lab) : endF n m r = if (roundF n m r).2 then endF n m (roundF n m r).1 else (roundF n m r).1 := by
  conv => lhs; unfold endF
  unfold roundsF
  dsimp only
  split
  · rename_i h
    have := (roundF_sum n m hn hm r).2 h
    exact rounds_fuel n m hn hm _ _ _ _ (Nat.le_refl _) this (by omega)
  · rfl
/-- at the end nothing is turned any more -/
theorem endF_end (n m : Nat) (hn : 0 < n) (hm : 0 < m) (s : Nat) : ∀ r : Lab, sumL r (n + m) ≤ s → Between (fun x y => endF n m r x = endF n m r y) 0 n ∧ Between (fun x y => endF n m r x = endF n m r y) n (n + m) := by
  induction s with
  | zero =>
    intro r h
    rw [endF_step n m hn hm r]
    split
    · rename_i h2; have := (roundF_sum n m hn hm r).2 h2; omega
    · rename_i h2
      obtain ⟨h3, h4⟩ := roundF_false n m r (by simpa using h2)
      rw [h3]; exact h4
  | succ s ih =>
    intro r h
    rw [endF_step n m hn hm r]
    split
    · rename_i h2
      have := (roundF_sum n m hn hm r).2 h2
      exact ih _ (by omega)
    · rename_i h2
      obtain ⟨h3, h4⟩ := roundF_false n m r (by simpa using h2)
      rw [h3]; exact h4
theorem endF_keep (n m : Nat) (r : Lab) (x y : Nat) (h : r x = r y) : endF n m r x = endF n m r y := roundsF_keep n m _ r x y h
/-- each place by itself -/
def idL : Lab := fun x => x
/-- the numbers of the finest map -/
def finL (n m : Nat) (l : List Lk) : Lab := endF n m (strayF l n (linksF n idL l) n)
theorem finL_sound {n m : Nat} {l : List Lk} {R : Nat → Nat → Prop} (hR : Closed n m l R) (hw : ∀ x ∈ l, x.a < x.b ∧ x.c < x.d) (hf : firstF l n < n) : Sound R (finL n m l) :=
  sound_roundsF hR _ _ (sound_stray hR hf n (Nat.le_refl _) _ (sound_linksF hR l (fun _ h => h) hw _ (fun x => hR.eqv.refl x)))
theorem finL_closed {n m : Nat} {l : List Lk} (hn : 0 < n) (hm : 0 < m) (hw : ∀ x ∈ l, x.a < x.b ∧ x.c < x.d) (hf : firstF l n < n) : Closed n m l (fun x y => finL n m l x = finL n m l y) where
  eqv := ⟨fun _ => rfl, fun _ _ h => h.symm, fun _ _ _ h k => h.trans k⟩
  ins := fun x hx i h1 h2 => endF_keep _ _ _ _ _ (strayF_keep _ _ _ _ _ _ ((linksF_all n l hw idL x hx).1 i h1 h2))
  outs := fun x hx i h1 h2 => endF_keep _ _ _ _ _ (strayF_keep _ _ _ _ _ _ ((linksF_all n l hw idL x hx).2.1 i h1 h2))
  both := fun x hx => endF_keep _ _ _ _ _ (strayF_keep _ _ _ _ _ _ (linksF_all n l hw idL x hx).2.2)
  stray := fun i h0 hi hl => by
    by_cases hif : firstF l n < i
    · exact endF_keep _ _ _ _ _ (stray_behind l n _ i hif hi hl)
    · have hne : i ≠ firstF l n := fun e => by
        have := first_linked l n hf
        rw [← e, hl] at this
        cases this
      have := stray_ahead l n (linksF n idL l) (i - 1) (by omega)
      rw [show i - 1 + 1 = i by omega] at this
      exact endF_keep _ _ _ _ _ this
  ahead := fun i hi _ => endF_keep _ _ _ _ _ (stray_ahead l n _ i hi)
  conv1 := fun i j k h1 h2 h3 h4 => (endF_end n m hn hm _ _ (Nat.le_refl _)).1 i j k (Nat.zero_le _) h1 h2 h3 h4
  conv2 := fun i j k h0 h1 h2 h3 h4 => (endF_end n m hn hm _ _ (Nat.le_refl _)).2 i j k h0 h1 h2 h3 h4
/-- two ways that are sound, and closed, come to the same sets -/
theorem same_sets {n m : Nat} {l : List Lk} {r q : Lab} (hr : ∀ R, Closed n m l R → Sound R r) (hq : ∀ R, Closed n m l R → Sound R q) (cr : Closed n m l (fun x y => r x = r y)) (cq : Closed n m l (fun x y => q x = q y)) (x y : Nat) : r x = r y ↔ q x = q y :=
  ⟨fun h => (hr _ cq).eq cq.eqv h, fun h => (hq _ cr).eq cr.eqv h⟩
end Go.Proofs.Ytohhobcipfmkbaa.UFinest
/-! Plain law of the finest map, as the document reckons it: the least number of each link's places is theirs, and of all between, until nothing changes. No Go and no memory in it. -/
namespace Go.Proofs.Ytohhobcipfmkbaa.UFinest
set_option linter.unusedVariables false
set_option linter.unusedSimpArgs false
def setL (L : Lab) (lo hi v : Nat) : Lab := fun x => if lo ≤ x ∧ x < hi then v else L x
/-- does a place of a span have another number? -/
def chg (L : Lab) (lo : Nat) (v : Nat) : Nat → Bool
  | 0 => false
  | k + 1 => chg L lo v k || decide (L (lo + k) ≠ v)
def leastL (L : Lab) (lo : Nat) : Nat → Nat
  | 0 => L lo
  | k + 1 => min (leastL L lo k) (L (lo + k))
theorem chg_false (L : Lab) (lo v k : Nat) (h : chg L lo v k = false) : ∀ x, lo ≤ x → x < lo + k → L x = v := by
  induction k with
  | zero => intro x h1 h2; omega
  | succ k ih =>
    intro x h1 h2
    unfold chg at h
    rw [Bool.or_eq_false_iff] at h
    by_cases hx : x = lo + k
    · subst hx; simpa using h.2
    · exact ih h.1 x h1 (by omega)
theorem chg_true (L : Lab) (lo v k : Nat) (h : chg L lo v k = true) : ∃ x, lo ≤ x ∧ x < lo + k ∧ L x ≠ v := by
  induction k with
  | zero => cases h
  | succ k ih =>
    unfold chg at h
    rw [Bool.or_eq_true] at h
    rcases h with h | h
    · obtain ⟨x, h1, h2, h3⟩ := ih h; exact ⟨x, h1, by omega, h3⟩
    · exact ⟨lo + k, by omega, by omega, by simpa using h⟩
theorem leastL_le (L : Lab) (lo k : Nat) : ∀ x, lo ≤ x → x < lo + k → leastL L lo k ≤ L x := by
  induction k with
  | zero => intro x h1 h2; omega
  | succ k ih =>
    intro x h1 h2
    unfold leastL
    by_cases hx : x = lo + k
    · subst hx; omega
    · have := ih x h1 (by omega); omega
theorem leastL_is (L : Lab) (lo k : Nat) (hk : 0 < k) : ∃ y, lo ≤ y ∧ y < lo + k ∧ leastL L lo k = L y := by
  have gen : ∀ k, ∃ y, lo ≤ y ∧ (y < lo + k ∨ (y = lo)) ∧ leastL L lo k = L y := by
    intro k
    induction k with
    | zero => exact ⟨lo, Nat.le_refl _, .inr rfl, rfl⟩
    | succ k ih =>
      obtain ⟨y, h1, h2, h3⟩ := ih
      unfold leastL
      by_cases h : L (lo + k) ≤ leastL L lo k
      · exact ⟨lo + k, by omega, .inl (by omega), by omega⟩
      · exact ⟨y, h1, h2.imp (fun h => by omega) id, by omega⟩
  obtain ⟨y, h1, h2, h3⟩ := gen k
  exact ⟨y, h1, by omega, h3⟩
theorem setL_same (L : Lab) (lo hi v : Nat) (h : ∀ x, lo ≤ x → x < hi → L x = v) : setL L lo hi v = L := by
  funext x
  unfold setL
  split
  · rename_i hx; exact (h x hx.1 hx.2).symm
  · rfl
theorem setL_le (L : Lab) (lo hi v : Nat) (h : ∀ x, lo ≤ x → x < hi → v ≤ L x) (x : Nat) : setL L lo hi v x ≤ L x := by
  unfold setL
  split
  · rename_i hx; exact h x hx.1 hx.2
  · exact Nat.le_refl _
theorem sound_setL {R : Nat → Nat → Prop} {L : Lab} (h : Sound R L) (lo hi v : Nat) (hv : ∀ x, lo ≤ x → x < hi → R x v) : Sound R (setL L lo hi v) := by
  intro x
  unfold setL
  split
  · rename_i hx; exact hv x hx.1 hx.2
  · exact h x
theorem chg_lt (L : Lab) (lo v k N : Nat) (hN : lo + k ≤ N) (hv : ∀ x, lo ≤ x → x < lo + k → v ≤ L x) (h : chg L lo v k = true) : sumL (setL L lo (lo + k) v) N < sumL L N := by
  obtain ⟨x, h1, h2, h3⟩ := chg_true L lo v k h
  refine sumL_lt (setL_le L lo (lo + k) v hv) N x (by omega) ?_
  unfold setL
  rw [if_pos ⟨h1, h2⟩]
  have := hv x h1 h2
  omega
/-- one link -/
def turn1 (n : Nat) (s : Lab × Bool) (x : Lk) : Lab × Bool :=
  let v0 := leastL s.1 x.a (x.b - x.a)
  if x.c < x.d then
    let v := min v0 (leastL s.1 (n + x.c) (x.d - x.c))
    let L1 := setL s.1 (n + x.c) (n + x.c + (x.d - x.c)) v
    (setL L1 x.a (x.a + (x.b - x.a)) v, chg L1 x.a v (x.b - x.a) || (chg s.1 (n + x.c) v (x.d - x.c) || s.2))
  else (setL s.1 x.a (x.a + (x.b - x.a)) v0, chg s.1 x.a v0 (x.b - x.a) || s.2)
/-- a link that joins what belongs together, within the places -/
structure LkOk (n m : Nat) (R : Nat → Nat → Prop) (x : Lk) : Prop where
  ins : ∀ i, x.a ≤ i → i < x.b → R x.a i
  outs : ∀ i, x.c ≤ i → i < x.d → R (n + x.c) (n + i)
  both : x.c < x.d → R x.a (n + x.c)
structure LkIn (n m : Nat) (x : Lk) : Prop where
  a : x.a < x.b
  b : x.b ≤ n
  d : x.c < x.d → x.d ≤ m
theorem sound_turn1 {n m : Nat} {R : Nat → Nat → Prop} (hR : Eqv R) {x : Lk} (hx : LkOk n m R x) (hi : LkIn n m x) (s : Lab × Bool) (h : Sound R s.1) : Sound R (turn1 n s x).1 := by
  have hab := hi.a
  obtain ⟨y0, h1, h2, h3⟩ := leastL_is s.1 x.a (x.b - x.a) (by omega)
  have hy0 : R x.a y0 := hx.ins y0 h1 (by omega)
  have hv0 : R x.a (leastL s.1 x.a (x.b - x.a)) := by rw [h3]; exact hR.trans _ _ _ hy0 (h y0)
  unfold turn1
  dsimp only
  split
  · rename_i hcd
    obtain ⟨y1, g1, g2, g3⟩ := leastL_is s.1 (n + x.c) (x.d - x.c) (by omega)
    have hy1 : R (n + x.c) y1 := by
      have := hx.outs (y1 - n) (by omega) (by omega)
      rwa [show n + (y1 - n) = y1 by omega] at this
    have hv1 : R x.a (leastL s.1 (n + x.c) (x.d - x.c)) := by rw [g3]; exact hR.trans _ _ _ (hx.both hcd) (hR.trans _ _ _ hy1 (h y1))
    have hv : R x.a (min (leastL s.1 x.a (x.b - x.a)) (leastL s.1 (n + x.c) (x.d - x.c))) := by
      rcases Nat.le_total (leastL s.1 x.a (x.b - x.a)) (leastL s.1 (n + x.c) (x.d - x.c)) with hle | hle
      · rw [Nat.min_eq_left hle]; exact hv0
      · rw [Nat.min_eq_right hle]; exact hv1
    refine sound_setL (sound_setL h _ _ _ ?_) _ _ _ ?_
    · intro z z1 z2
      have := hx.outs (z - n) (by omega) (by omega)
      rw [show n + (z - n) = z by omega] at this
      exact hR.trans _ _ _ (hR.symm _ _ this) (hR.trans _ _ _ (hR.symm _ _ (hx.both hcd)) hv)
    · intro z z1 z2
      exact hR.trans _ _ _ (hR.symm _ _ (hx.ins z z1 (by omega))) hv
  · refine sound_setL h _ _ _ ?_
    intro z z1 z2
    exact hR.trans _ _ _ (hR.symm _ _ (hx.ins z z1 (by omega))) hv0
theorem turn1_false (n : Nat) (s : Lab × Bool) (x : Lk) (h : (turn1 n s x).2 = false) : s.2 = false ∧ (turn1 n s x).1 = s.1 ∧ (∀ i, x.a ≤ i → i < x.b → s.1 x.a = s.1 i) ∧ (x.c < x.d → x.a < x.b → (∀ i, x.c ≤ i → i < x.d → s.1 (n + x.c) = s.1 (n + i)) ∧ s.1 x.a = s.1 (n + x.c)) := by
  unfold turn1 at h ⊢
  dsimp only at h ⊢
  split
  · rename_i hcd
    rw [if_pos hcd] at h
    rw [Bool.or_eq_false_iff, Bool.or_eq_false_iff] at h
    obtain ⟨h1, h2, h3⟩ := h
    have e2 := chg_false _ _ _ _ h2
    have hs1 := setL_same s.1 (n + x.c) (n + x.c + (x.d - x.c)) _ e2
    rw [hs1] at h1 ⊢
    have e1 := chg_false _ _ _ _ h1
    have hs2 := setL_same s.1 x.a (x.a + (x.b - x.a)) _ e1
    rw [hs2]
    refine ⟨h3, rfl, fun i i1 i2 => by rw [e1 x.a (Nat.le_refl _) (by omega), e1 i i1 (by omega)], fun _ hab => ⟨fun i i1 i2 => by rw [e2 (n + x.c) (Nat.le_refl _) (by omega), e2 (n + i) (by omega) (by omega)], by rw [e1 x.a (Nat.le_refl _) (by omega), e2 (n + x.c) (Nat.le_refl _) (by omega)]⟩⟩
  · rename_i hcd
    rw [if_neg hcd] at h
    rw [Bool.or_eq_false_iff] at h
    obtain ⟨h1, h3⟩ := h
    have e1 := chg_false _ _ _ _ h1
    have hs2 := setL_same s.1 x.a (x.a + (x.b - x.a)) _ e1
    rw [hs2]
    exact ⟨h3, rfl, fun i i1 i2 => by rw [e1 x.a (Nat.le_refl _) (by omega), e1 i i1 (by omega)], fun hc => absurd hc hcd⟩
theorem turn1_sum {n m : Nat} {x : Lk} (hi : LkIn n m x) (s : Lab × Bool) : sumL (turn1 n s x).1 (n + m) ≤ sumL s.1 (n + m) ∧ ((turn1 n s x).2 = true → s.2 = true ∨ sumL (turn1 n s x).1 (n + m) < sumL s.1 (n + m)) := by
  have hab := hi.a
  have hbn := hi.b
  unfold turn1
  dsimp only
  split
  · rename_i hcd
    have hdm := hi.d hcd
    obtain ⟨v, hv⟩ : ∃ v, v = min (leastL s.1 x.a (x.b - x.a)) (leastL s.1 (n + x.c) (x.d - x.c)) := ⟨_, rfl⟩
    rw [← hv]
    have l1 : ∀ z, n + x.c ≤ z → z < n + x.c + (x.d - x.c) → v ≤ s.1 z := fun z z1 z2 => by have := leastL_le s.1 (n + x.c) (x.d - x.c) z z1 z2; omega
    have l2 : ∀ z, x.a ≤ z → z < x.a + (x.b - x.a) → v ≤ setL s.1 (n + x.c) (n + x.c + (x.d - x.c)) v z := fun z z1 z2 => by
      have := leastL_le s.1 x.a (x.b - x.a) z z1 z2
      unfold setL
      split <;> omega
    have m1 := sumL_le (setL_le s.1 (n + x.c) (n + x.c + (x.d - x.c)) v l1) (n + m)
    have m2 := sumL_le (setL_le _ x.a (x.a + (x.b - x.a)) v l2) (n + m)
    refine ⟨by dsimp only; omega, fun h => ?_⟩
    rw [Bool.or_eq_true, Bool.or_eq_true] at h
    rcases h with h | h | h
    · have := chg_lt _ x.a v (x.b - x.a) (n + m) (by omega) l2 h
      exact .inr (by dsimp only; omega)
    · have := chg_lt _ (n + x.c) v (x.d - x.c) (n + m) (by omega) l1 h
      exact .inr (by dsimp only; omega)
    · exact .inl h
  · have l2 : ∀ z, x.a ≤ z → z < x.a + (x.b - x.a) → leastL s.1 x.a (x.b - x.a) ≤ s.1 z := fun z z1 z2 => leastL_le s.1 x.a (x.b - x.a) z z1 z2
    have m2 := sumL_le (setL_le _ x.a (x.a + (x.b - x.a)) _ l2) (n + m)
    refine ⟨m2, fun h => ?_⟩
    rw [Bool.or_eq_true] at h
    rcases h with h | h
    · exact .inr (chg_lt _ x.a _ (x.b - x.a) (n + m) (by omega) l2 h)
    · exact .inl h
/-! ### all between -/
def hullL (L : Lab) (lo v : Nat) : Nat → Nat × Nat
  | 0 => (0, 0)
  | k + 1 => let s := hullL L lo v k
    if L (lo + k) = v then ((if s.2 = 0 then k else s.1), k + 1) else s
theorem hullL_is (L : Lab) (lo v k : Nat) : ((hullL L lo v k) = (0, 0) ∧ ∀ i, i < k → L (lo + i) ≠ v) ∨ ((hullL L lo v k).1 < (hullL L lo v k).2 ∧ (hullL L lo v k).2 ≤ k ∧ L (lo + (hullL L lo v k).1) = v ∧ L (lo + (hullL L lo v k).2 - 1) = v ∧ ∀ i, i < k → L (lo + i) = v → (hullL L lo v k).1 ≤ i ∧ i < (hullL L lo v k).2) := by
  induction k with
  | zero => exact .inl ⟨rfl, fun i h => by omega⟩
  | succ k ih =>
    unfold hullL
    dsimp only
    split
    · rename_i h
      right
      rcases ih with ⟨h1, h2⟩ | ⟨h1, h2, h3, h4, h5⟩
      · rw [h1]
        refine ⟨by simp, by simp, by simpa using h, by simpa [Nat.add_sub_assoc] using h, fun i hi he => ?_⟩
        by_cases hik : i = k
        · subst hik; simp
        · exact absurd he (h2 i (by omega))
      · rw [if_neg (by omega)]
        refine ⟨by dsimp only; omega, by dsimp only; omega, h3, by dsimp only; rw [show lo + (k + 1) - 1 = lo + k by omega]; exact h, fun i hi he => ?_⟩
        dsimp only
        by_cases hik : i = k
        · subst hik; omega
        · have := h5 i (by omega) he; omega
    · rename_i h
      rcases ih with ⟨h1, h2⟩ | ⟨h1, h2, h3, h4, h5⟩
      · left
        refine ⟨h1, fun i hi he => ?_⟩
        by_cases hik : i = k
        · subst hik; exact h he
        · exact h2 i (by omega) he
      · right
        refine ⟨h1, by omega, h3, h4, fun i hi he => ?_⟩
        by_cases hik : i = k
        · subst hik; exact absurd he h
        · exact h5 i (by omega) he
def wholeTo (L : Lab) (lo len : Nat) : Nat → Lab × Bool
  | 0 => (L, false)
  | k + 1 => let q := wholeTo L lo len k
    let s := hullL q.1 lo (q.1 (lo + k)) len
    let v := leastL q.1 (lo + s.1) (s.2 - s.1)
    (setL q.1 (lo + s.1) (lo + s.1 + (s.2 - s.1)) v, chg q.1 (lo + s.1) v (s.2 - s.1) || q.2)
theorem sound_wholeTo {R : Nat → Nat → Prop} (hR : Eqv R) {lo len : Nat} (hb : Between R lo (lo + len)) (L : Lab) (k : Nat) (hk : k ≤ len) (h : Sound R L) : Sound R (wholeTo L lo len k).1 := by
  induction k with
  | zero => exact h
  | succ k ih =>
    have ih' := ih (by omega)
    unfold wholeTo
    dsimp only
    generalize (wholeTo L lo len k).1 = q at ih' ⊢
    rcases hullL_is q lo (q (lo + k)) len with ⟨_, h2⟩ | ⟨h1, h2, h3, h4, h5⟩
    · exact absurd rfl (h2 k (by omega))
    · generalize hullL q lo (q (lo + k)) len = s at h1 h2 h3 h4 h5
      obtain ⟨y, y1, y2, y3⟩ := leastL_is q (lo + s.1) (s.2 - s.1) (by omega)
      have hspan : ∀ z, lo + s.1 ≤ z → z < lo + s.1 + (s.2 - s.1) → R (lo + s.1) z := fun z z1 z2 => by
        have hl : R (lo + s.1) (lo + s.2 - 1) := Sound.eq hR ih' (by rw [h3, h4])
        exact hb (lo + s.1) z (lo + s.2 - 1) (by omega) z1 (by omega) (by omega) hl
      refine sound_setL ih' _ _ _ (fun z z1 z2 => ?_)
      rw [y3]
      exact hR.trans _ _ _ (hR.symm _ _ (hspan z z1 z2)) (hR.trans _ _ _ (hspan y y1 y2) (ih' y))
theorem wholeTo_false (L : Lab) (lo len k : Nat) (hk : k ≤ len) (h : (wholeTo L lo len k).2 = false) : (wholeTo L lo len k).1 = L ∧ ∀ i, i < k → ∀ j, i ≤ j → j < len → ∀ z, lo + i ≤ z → z ≤ lo + j → L (lo + i) = L (lo + j) → L (lo + i) = L z := by
  induction k with
  | zero => exact ⟨rfl, fun i hi => by omega⟩
  | succ k ih =>
    unfold wholeTo at h ⊢
    dsimp only at h ⊢
    rw [Bool.or_eq_false_iff] at h
    obtain ⟨h1, h2⟩ := ih (by omega) h.2
    rw [h1] at h ⊢
    have hc := chg_false _ _ _ _ h.1
    rw [setL_same _ _ _ _ hc]
    refine ⟨rfl, fun i hi j hij hj z z1 z2 he => ?_⟩
    by_cases hik : i = k
    · subst hik
      rcases hullL_is L lo (L (lo + i)) len with ⟨_, g2⟩ | ⟨g1, g2, g3, g4, g5⟩
      · exact absurd rfl (g2 i (by omega))
      · have a1 := g5 i (by omega) rfl
        have a2 := g5 j hj he.symm
        rw [hc (lo + i) (by omega) (by omega), hc z (by omega) (by omega)]
    · exact h2 i (by omega) j hij hj z z1 z2 he
theorem wholeTo_sum (L : Lab) (lo len N k : Nat) (hk : k ≤ len) (hN : lo + len ≤ N) : sumL (wholeTo L lo len k).1 N ≤ sumL L N ∧ ((wholeTo L lo len k).2 = true → sumL (wholeTo L lo len k).1 N < sumL L N) := by
  induction k with
  | zero => exact ⟨Nat.le_refl _, fun h => by cases h⟩
  | succ k ih =>
    obtain ⟨h1, h2⟩ := ih (by omega)
    unfold wholeTo
    dsimp only
    generalize wholeTo L lo len k = q at h1 h2 ⊢
    have hs : (hullL q.1 lo (q.1 (lo + k)) len).2 ≤ len := by
      rcases hullL_is q.1 lo (q.1 (lo + k)) len with ⟨e, _⟩ | ⟨_, g2, _⟩
      · rw [e]; exact Nat.zero_le _
      · exact g2
    generalize hullL q.1 lo (q.1 (lo + k)) len = s at hs
    have l1 := leastL_le q.1 (lo + s.1) (s.2 - s.1)
    have m1 := sumL_le (setL_le q.1 (lo + s.1) (lo + s.1 + (s.2 - s.1)) _ l1) N
    refine ⟨by omega, fun h => ?_⟩
    rw [Bool.or_eq_true] at h
    rcases h with h | h
    · by_cases hz : s.1 < s.2
      · have := chg_lt q.1 (lo + s.1) _ (s.2 - s.1) N (by omega) l1 h
        omega
      · rw [show s.2 - s.1 = 0 by omega] at h
        cases h
    · have := h2 h; omega
/-! ### the whole -/
def turnsL (n : Nat) (all : List Lk) (L : Lab) : Lab × Bool := all.foldl (turn1 n) (L, false)
def turnL (n m : Nat) (all : List Lk) (L : Lab) : Lab × Bool :=
  let q := turnsL n all L
  let w1 := wholeTo q.1 0 n n
  let w2 := wholeTo w1.1 n m m
  (w2.1, w2.2 || (w1.2 || q.2))
theorem sound_turns {n m : Nat} {R : Nat → Nat → Prop} (hR : Eqv R) (all : List Lk) (ho : ∀ x ∈ all, LkOk n m R x) (hi : ∀ x ∈ all, LkIn n m x) : ∀ s : Lab × Bool, Sound R s.1 → Sound R (all.foldl (turn1 n) s).1 := by
  induction all with
  | nil => intro s h; exact h
  | cons x t ih => intro s h; exact ih (fun y hy => ho y (List.mem_cons_of_mem _ hy)) (fun y hy => hi y (List.mem_cons_of_mem _ hy)) _ (sound_turn1 hR (ho x List.mem_cons_self) (hi x List.mem_cons_self) s h)
theorem turns_false (n : Nat) (all : List Lk) : ∀ s : Lab × Bool, (all.foldl (turn1 n) s).2 = false → s.2 = false ∧ (all.foldl (turn1 n) s).1 = s.1 ∧ ∀ x ∈ all, (∀ i, x.a ≤ i → i < x.b → s.1 x.a = s.1 i) ∧ (x.c < x.d → x.a < x.b → (∀ i, x.c ≤ i → i < x.d → s.1 (n + x.c) = s.1 (n + i)) ∧ s.1 x.a = s.1 (n + x.c)) := by
  induction all with
  | nil => intro s h; exact ⟨h, rfl, fun x hx => by simp at hx⟩
  | cons x t ih =>
    intro s h
    obtain ⟨h1, h2, h3⟩ := ih (turn1 n s x) h
    obtain ⟨g1, g2, g3⟩ := turn1_false n s x h1
    rw [g2] at h2 h3
    refine ⟨g1, h2, fun y hy => ?_⟩
    rcases List.mem_cons.1 hy with rfl | hy
    · exact g3
    · exact h3 y hy
theorem turns_sum {n m : Nat} (all : List Lk) (hi : ∀ x ∈ all, LkIn n m x) : ∀ s : Lab × Bool, sumL (all.foldl (turn1 n) s).1 (n + m) ≤ sumL s.1 (n + m) ∧ ((all.foldl (turn1 n) s).2 = true → s.2 = true ∨ sumL (all.foldl (turn1 n) s).1 (n + m) < sumL s.1 (n + m)) := by
  induction all with
  | nil => intro s; exact ⟨Nat.le_refl _, fun h => .inl h⟩
  | cons x t ih =>
    intro s
    obtain ⟨h1, h2⟩ := ih (fun y hy => hi y (List.mem_cons_of_mem _ hy)) (turn1 n s x)
    obtain ⟨g1, g2⟩ := turn1_sum (hi x List.mem_cons_self) s
    rw [List.foldl_cons]
    refine ⟨by omega, fun h => ?_⟩
    rcases h2 h with h3 | h3
    · rcases g2 h3 with h4 | h4
      · exact .inl h4
      · exact .inr (by omega)
    · exact .inr (by omega)
theorem sound_turnL {n m : Nat} {R : Nat → Nat → Prop} (hR : Eqv R) (c1 : Between R 0 n) (c2 : Between R n (n + m)) {all : List Lk} (ho : ∀ x ∈ all, LkOk n m R x) (hi : ∀ x ∈ all, LkIn n m x) {L : Lab} (h : Sound R L) : Sound R (turnL n m all L).1 :=
  sound_wholeTo hR c2 _ m (Nat.le_refl _) (sound_wholeTo hR (by rwa [Nat.zero_add]) _ n (Nat.le_refl _) (sound_turns hR all ho hi (L, false) h))
theorem turnL_false {n m : Nat} {all : List Lk} {L : Lab} (h : (turnL n m all L).2 = false) : (turnL n m all L).1 = L ∧ (∀ x ∈ all, (∀ i, x.a ≤ i → i < x.b → L x.a = L i) ∧ (x.c < x.d → x.a < x.b → (∀ i, x.c ≤ i → i < x.d → L (n + x.c) = L (n + i)) ∧ L x.a = L (n + x.c))) ∧ Between (fun x y => L x = L y) 0 n ∧ Between (fun x y => L x = L y) n (n + m) := by
  unfold turnL at h ⊢
  dsimp only at h ⊢
  rw [Bool.or_eq_false_iff, Bool.or_eq_false_iff] at h
  obtain ⟨h1, h2, h3⟩ := h
  obtain ⟨_, g2, g3⟩ := turns_false n all (L, false) h3
  have g2' : (turnsL n all L).1 = L := g2
  rw [g2'] at h1 h2 ⊢
  obtain ⟨a1, a2⟩ := wholeTo_false _ _ _ _ (Nat.le_refl _) h2
  rw [a1] at h1 ⊢
  obtain ⟨b1, b2⟩ := wholeTo_false _ _ _ _ (Nat.le_refl _) h1
  refine ⟨b1, g3, fun i j k h0 hij hjk hk he => ?_, fun i j k h0 hij hjk hk he => ?_⟩
  · have := a2 i (by omega) k (by omega) hk j (by omega) (by omega)
    simp only [Nat.zero_add] at this
    exact this he
  · have := b2 (i - n) (by omega) (k - n) (by omega) (by omega) j (by omega) (by omega)
    rw [show n + (i - n) = i by omega, show n + (k - n) = k by omega] at this
    exact this he
theorem turnL_sum {n m : Nat} {all : List Lk} (hi : ∀ x ∈ all, LkIn n m x) (L : Lab) : sumL (turnL n m all L).1 (n + m) ≤ sumL L (n + m) ∧ ((turnL n m all L).2 = true → sumL (turnL n m all L).1 (n + m) < sumL L (n + m)) := by
  unfold turnL turnsL
  dsimp only
  obtain ⟨h1, h2⟩ := turns_sum all hi (L, false)
  obtain ⟨a1, a2⟩ := wholeTo_sum (all.foldl (turn1 n) (L, false)).1 0 n (n + m) n (Nat.le_refl _) (by omega)
  obtain ⟨b1, b2⟩ := wholeTo_sum (wholeTo (all.foldl (turn1 n) (L, false)).1 0 n n).1 n m (n + m) m (Nat.le_refl _) (Nat.le_refl _)
  refine ⟨by dsimp only at h1; omega, fun h => ?_⟩
  rw [Bool.or_eq_true, Bool.or_eq_true] at h
  dsimp only at h1
  rcases h with h | h | h
  · have := b2 h; omega
  · have := a2 h; omega
  · rcases h2 h with h3 | h3
    · cases h3
    · dsimp only at h3; omega
end Go.Proofs.Ytohhobcipfmkbaa.UFinest
