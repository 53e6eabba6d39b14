/- Texts of this claim, cut to what it needs. -/
import Derived.Test.YtohhobcipfmkbaaKWWords
import Derived.Test.YtohhobcipfmkbaaKWMore
import Derived.Lib.Hide
import Derived.StillTailTactics
import Derived.Deep.RegionWith
import Derived.Tactics
import Derived.WalkKit
import Derived.KernelRfl
import Derived.LoopN
import Derived.Test.YtohhobcipfmkbaaKCFinQ
import Derived.Laws.CopyOwn
import Derived.BigQuiet
import Derived.Shelf.Lay
import Derived.Ground.Names2Prog
import Derived.Shelf.Spec.SlicesInsertGrow
import Derived.Shelf.Slices.Clone
import Derived.Shelf.Slices.Cells
import Derived.Test.YtohhobcipfmkbaaRows
set_option linter.unusedSimpArgs false
set_option linter.unusedVariables false
section
namespace Go.Proofs.Ytohhobcipfmkbaa.UFinest
abbrev Lab := Nat → Nat
def merge (r : Lab) (a b : Nat) : Lab := fun x => if r x = max (r a) (r b) then min (r a) (r b) else r x
def two (r : Lab) (a b : Nat) : Bool := decide (r a ≠ r b)
theorem merge_eq (r : Lab) (a b : Nat) : merge r a b a = merge r a b b := by
 unfold merge
 by_cases h : r a ≤ r b
 ·rw [Nat.max_eq_right h, Nat.min_eq_left h, if_pos rfl]
  split <;> rfl
 ·rw [Nat.max_eq_left (by omega), Nat.min_eq_right (by omega), if_pos rfl]
  split <;> rfl
theorem merge_keep (r : Lab) (a b x y : Nat) (h : r x = r y) : merge r a b x = merge r a b y := by unfold merge; rw [h]
theorem merge_same (r : Lab) (a b : Nat) (h : r a = r b) : merge r a b = r := by
 funext x
 unfold merge
 rw [h, Nat.max_self, Nat.min_self]
 split
 ·rename_i h1; exact h1.symm
 ·rfl
theorem merge_le (r : Lab) (a b x : Nat) : merge r a b x ≤ r x := by
 unfold merge
 split
 ·rename_i h; rw [h]; omega
 ·exact Nat.le_refl _
structure Eqv (R : Nat → Nat → Prop) : Prop where
 refl : ∀ x, R x x
 symm : ∀ x y, R x y → R y x
 trans : ∀ x y z, R x y → R y z → R x z
def Sound (R : Nat → Nat → Prop) (r : Lab) : Prop := ∀ x, R x (r x)
theorem Sound.eq {R : Nat → Nat → Prop} {r : Lab} (hR : Eqv R) (h : Sound R r) {x y : Nat} (e : r x = r y) : R x y := hR.trans _ _ _ (h x) (e ▸ hR.symm _ _ (h y))
theorem sound_merge {R : Nat → Nat → Prop} {r : Lab} (hR : Eqv R) (h : Sound R r) {a b : Nat} (hab : R a b) : Sound R (merge r a b) := by
 intro x
 unfold merge
 split
 ·rename_i hx
  have h1 : R (r a) (r b) := hR.trans _ _ _ (hR.symm _ _ (h a)) (hR.trans _ _ _ hab (h b))
  have hxx := h x
  rw [hx] at hxx
  by_cases hle : r a ≤ r b
  ·rw [Nat.max_eq_right hle] at hxx
   rw [Nat.min_eq_left hle]
   exact hR.trans _ _ _ hxx (hR.symm _ _ h1)
  ·rw [Nat.max_eq_left (by omega)] at hxx
   rw [Nat.min_eq_right (by omega)]
   exact hR.trans _ _ _ hxx h1
 ·exact h x
structure Lk where
 a : Nat
 b : Nat
 c : Nat
 d : Nat
def allF (r : Lab) (base : Nat) : Nat → Lab
 | 0 => r
 | k + 1 => merge (allF r base k) base (base + k + 1)
def linkF (n : Nat) (r : Lab) (x : Lk) : Lab := merge (allF (allF r x.a (x.b - x.a - 1)) (n + x.c) (x.d - x.c - 1)) x.a (n + x.c)
def linksF (n : Nat) (r : Lab) (l : List Lk) : Lab := l.foldl (linkF n) r
def linkedB (l : List Lk) (i : Nat) : Bool := l.any fun x => decide (x.a ≤ i) && decide (i < x.b)
def firstF (l : List Lk) (n : Nat) : Nat := (List.range n).findIdx (linkedB l)
def strayF (l : List Lk) (n : Nat) (r : Lab) : Nat → Lab
 | 0 => r
 | k + 1 => let q := strayF l n r k
  if linkedB l k then q else if firstF l n < k then merge q (k - 1) k else merge q k (k + 1)
def lastF (r : Lab) (lo : Nat) : Nat → Nat → Nat
 | 0 => fun _ => 0
 | k + 1 => fun v => if r (lo + k) = v then lo + k else lastF r lo k v
def closeIn (last : Nat → Nat) (i : Nat) : Nat → Nat → Lab → Bool → Lab × Bool
 | 0, _, r, t => (r, t)
 | f + 1, k, r, t => if k ≤ last (r i) then closeIn last i f (k + 1) (merge r i k) (two r i k || t) else (r, t)
def closeTo (last : Nat → Nat) (lo hi : Nat) : Nat → Lab × Bool → Lab × Bool
 | 0, s => s
 | k + 1, s => let q := closeTo last lo hi k s
  closeIn last (lo + k) (hi + 1) (lo + k + 1) q.1 q.2
def closeF (r : Lab) (lo hi : Nat) : Lab × Bool := closeTo (lastF r lo (hi - lo)) lo hi (hi - lo) (r, false)
def roundF (n m : Nat) (r : Lab) : Lab × Bool :=
 let q := closeF r 0 n
 let p := closeF q.1 n (n + m)
 (p.1, q.2 || p.2)
def roundsF (n m : Nat) : Nat → Lab → Lab
 | 0, r => r
 | f + 1, r => let q := roundF n m r
  if q.2 then roundsF n m f q.1 else q.1
structure Closed (n m : Nat) (l : List Lk) (R : Nat → Nat → Prop) : Prop where
 eqv : Eqv R
 ins : ∀ x ∈ l, ∀ i, x.a ≤ i → i < x.b → R x.a i
 outs : ∀ x ∈ l, ∀ i, x.c ≤ i → i < x.d → R (n + x.c) (n + i)
 both : ∀ x ∈ l, R x.a (n + x.c)
 stray : ∀ i, 0 < i → i < n → linkedB l i = false → R (i - 1) i
 ahead : ∀ i, i < firstF l n → firstF l n < n → R i (i + 1)
 conv1 : ∀ i j k, i ≤ j → j ≤ k → k < n → R i k → R i j
 conv2 : ∀ i j k, n ≤ i → i ≤ j → j ≤ k → k < n + m → R i k → R i j
theorem sound_allF {R : Nat → Nat → Prop} (hR : Eqv R) {r : Lab} (h : Sound R r) (base k : Nat) (hj : ∀ i, base ≤ i → i ≤ base + k → R base i) : Sound R (allF r base k) := by
 induction k with
 | zero => exact h
 | succ k ih => exact sound_merge hR (ih fun i h1 h2 => hj i h1 (by omega)) (hj _ (by omega) (by omega))
theorem allF_eq (r : Lab) (base k : Nat) : ∀ i, base ≤ i → i ≤ base + k → allF r base k base = allF r base k i := by
 induction k with
 | zero => intro i h1 h2; rw [show i = base by omega]
 | succ k ih =>
  intro i h1 h2
  unfold allF
  by_cases hi : i = base + k + 1
  ·rw [hi]; exact merge_eq _ _ _
  ·exact merge_keep _ _ _ _ _ (ih i h1 (by omega))
theorem allF_keep (r : Lab) (base k x y : Nat) (h : r x = r y) : allF r base k x = allF r base k y := by
 induction k with
 | zero => exact h
 | succ k ih => exact merge_keep _ _ _ _ _ ih
theorem linkF_keep (n : Nat) (r : Lab) (z : Lk) (x y : Nat) (h : r x = r y) : linkF n r z x = linkF n r z y := merge_keep _ _ _ _ _ (allF_keep _ _ _ _ _ (allF_keep _ _ _ _ _ h))
theorem linksF_keep (n : Nat) (l : List Lk) : ∀ (r : Lab) (x y : Nat), r x = r y → linksF n r l x = linksF n r l y := by
 induction l with
 | nil => intro r x y h; exact h
 | cons z t ih => intro r x y h; exact ih _ _ _ (linkF_keep n r z x y h)
theorem sound_linksF {n m : Nat} {l0 : List Lk} {R : Nat → Nat → Prop} (hR : Closed n m l0 R) (l : List Lk) (hl : ∀ x ∈ l, x ∈ l0) (hw : ∀ x ∈ l, x.a < x.b ∧ x.c < x.d) : ∀ r, Sound R r → Sound R (linksF n r l) := by
 induction l with
 | nil => intro r h; exact h
 | cons z t ih =>
  intro r h
  have hz := hl z List.mem_cons_self
  have hzw := hw z List.mem_cons_self
  refine ih (fun x hx => hl x (List.mem_cons_of_mem _ hx)) (fun x hx => hw x (List.mem_cons_of_mem _ hx)) _ ?_
  refine sound_merge hR.eqv (sound_allF hR.eqv (sound_allF hR.eqv h _ _ ?_) _ _ ?_) (hR.both z hz)
  ·intro i h1 h2; exact hR.ins z hz i h1 (by omega)
  ·intro i h1 h2
   have := hR.outs z hz (i - n) (by omega) (by omega)
   rwa [show n + (i - n) = i by omega] at this
theorem linkF_ins (n : Nat) (r : Lab) (z : Lk) (hz : z.a < z.b) (i : Nat) (h1 : z.a ≤ i) (h2 : i < z.b) : linkF n r z z.a = linkF n r z i := merge_keep _ _ _ _ _ (allF_keep _ _ _ _ _ (allF_eq _ _ _ i h1 (by omega)))
theorem linkF_outs (n : Nat) (r : Lab) (z : Lk) (hz : z.c < z.d) (i : Nat) (h1 : z.c ≤ i) (h2 : i < z.d) : linkF n r z (n + z.c) = linkF n r z (n + i) := merge_keep _ _ _ _ _ (allF_eq _ _ _ (n + i) (by omega) (by omega))
theorem linkF_both (n : Nat) (r : Lab) (z : Lk) : linkF n r z z.a = linkF n r z (n + z.c) := merge_eq _ _ _
theorem linksF_all (n : Nat) (l : List Lk) (hw : ∀ x ∈ l, x.a < x.b ∧ x.c < x.d) : ∀ r, ∀ z ∈ l, (∀ i, z.a ≤ i → i < z.b → linksF n r l z.a = linksF n r l i) ∧ (∀ i, z.c ≤ i → i < z.d → linksF n r l (n + z.c) = linksF n r l (n + i)) ∧ linksF n r l z.a = linksF n r l (n + z.c) := by
 induction l with
 | nil => intro r z h; simp at h
 | cons y t ih =>
  intro r z hz
  rcases List.mem_cons.1 hz with rfl | hz
  ·have := hw z List.mem_cons_self
   exact ⟨fun i h1 h2 => linksF_keep n t _ _ _ (linkF_ins n r z this.1 i h1 h2), fun i h1 h2 => linksF_keep n t _ _ _ (linkF_outs n r z this.2 i h1 h2), linksF_keep n t _ _ _ (linkF_both n r z)⟩
  ·exact ih (fun x hx => hw x (List.mem_cons_of_mem _ hx)) _ z hz
theorem strayF_keep (l : List Lk) (n : Nat) (r : Lab) (k x y : Nat) (h : r x = r y) : strayF l n r k x = strayF l n r k y := by
 induction k with
 | zero => exact h
 | succ k ih =>
  unfold strayF
  dsimp only
  split
  ·exact ih
  ·split <;> exact merge_keep _ _ _ _ _ ih
theorem strayF_more (l : List Lk) (n : Nat) (r : Lab) (k x y : Nat) (h : strayF l n r k x = strayF l n r k y) : ∀ d, strayF l n r (k + d) x = strayF l n r (k + d) y := by
 intro d
 induction d with
 | zero => exact h
 | succ d ih =>
  rw [show k + (d + 1) = (k + d) + 1 by omega]
  unfold strayF
  dsimp only
  split
  ·exact ih
  ·split <;> exact merge_keep _ _ _ _ _ ih
theorem first_linked (l : List Lk) (n : Nat) (h : firstF l n < n) : linkedB l (firstF l n) = true := by
 unfold firstF at h ⊢
 have := List.findIdx_getElem (xs := List.range n) (p := linkedB l) (w := by simpa using h)
 simpa using this
theorem first_least (l : List Lk) (n i : Nat) (h : i < firstF l n) (hn : firstF l n ≤ n) : linkedB l i = false := by
 unfold firstF at h hn
 have := List.not_of_lt_findIdx (xs := List.range n) (p := linkedB l) h
 simpa using this
theorem first_le (l : List Lk) (n : Nat) : firstF l n ≤ n := by
 unfold firstF
 have := List.findIdx_le_length (xs := List.range n) (p := linkedB l)
 simpa using this
theorem sound_stray {n m : Nat} {l : List Lk} {R : Nat → Nat → Prop} (hR : Closed n m l R) (hf : firstF l n < n) (k : Nat) (hk : k ≤ n) : ∀ r, Sound R r → Sound R (strayF l n r k) := by
 induction k with
 | zero => intro r h; exact h
 | succ k ih =>
  intro r h
  have ih' := ih (by omega) r h
  unfold strayF
  dsimp only
  split
  ·exact ih'
  ·rename_i hl
   split
   ·rename_i h1
    exact sound_merge hR.eqv ih' (hR.stray k (by omega) (by omega) (by simpa using hl))
   ·rename_i h1
    have : k ≠ firstF l n := fun e => hl (by rw [e]; exact first_linked l n hf)
    exact sound_merge hR.eqv ih' (hR.ahead k (by omega) hf)
theorem stray_behind (l : List Lk) (n : Nat) (r : Lab) (i : Nat) (h0 : firstF l n < i) (hn : i < n) (hl : linkedB l i = false) : strayF l n r n (i - 1) = strayF l n r n i := by
 have h : strayF l n r (i + 1) (i - 1) = strayF l n r (i + 1) i := by
  unfold strayF
  dsimp only
  rw [hl, if_neg (by simp), if_pos h0]
  exact merge_eq _ _ _
 have := strayF_more l n r (i + 1) _ _ h (n - (i + 1))
 rwa [show i + 1 + (n - (i + 1)) = n by omega] at this
theorem stray_ahead (l : List Lk) (n : Nat) (r : Lab) (i : Nat) (h0 : i < firstF l n) : strayF l n r n i = strayF l n r n (i + 1) := by
 have hn := first_le l n
 have h : strayF l n r (i + 1) i = strayF l n r (i + 1) (i + 1) := by
  unfold strayF
  dsimp only
  rw [first_least l n i h0 hn, if_neg (by simp), if_neg (by omega)]
  exact merge_eq _ _ _
 have := strayF_more l n r (i + 1) _ _ h (n - (i + 1))
 rwa [show i + 1 + (n - (i + 1)) = n by omega] at this
theorem lastF_or (r : Lab) (lo : Nat) (k : Nat) (v : Nat) : lastF r lo k v = 0 ∨ (lo ≤ lastF r lo k v ∧ lastF r lo k v < lo + k ∧ r (lastF r lo k v) = v) := by
 induction k with
 | zero => exact .inl rfl
 | succ k ih =>
  unfold lastF
  split
  ·rename_i h; exact .inr ⟨by omega, by omega, h⟩
  ·rcases ih with h | ⟨h1, h2, h3⟩
   ·exact .inl h
   ·exact .inr ⟨h1, by omega, h3⟩
theorem lastF_ge (r : Lab) (lo : Nat) (k : Nat) (j : Nat) (h1 : lo ≤ j) (h2 : j < lo + k) : j ≤ lastF r lo k (r j) := by
 induction k with
 | zero => omega
 | succ k ih =>
  unfold lastF
  split
  ·omega
  ·rename_i h
   by_cases hj : j = lo + k
   ·subst hj; exact absurd rfl h
   ·exact ih (by omega)
theorem lastF_lt (r : Lab) (lo hi : Nat) (h : lo < hi) (v : Nat) : lastF r lo (hi - lo) v < hi := by
 rcases lastF_or r lo (hi - lo) v with h1 | ⟨_, h1, _⟩ <;> omega
def Between (R : Nat → Nat → Prop) (lo hi : Nat) : Prop := ∀ i j k, lo ≤ i → i ≤ j → j ≤ k → k < hi → R i k → R i j
def LastOk (R : Nat → Nat → Prop) (lo hi : Nat) (last : Nat → Nat) : Prop := ∀ v, last v = 0 ∨ (lo ≤ last v ∧ last v < hi ∧ R v (last v))
theorem sound_closeIn {R : Nat → Nat → Prop} (hR : Eqv R) {lo hi : Nat} (hb : Between R lo hi) {last : Nat → Nat} (hl : LastOk R lo hi last) (i : Nat) (hi0 : lo ≤ i) (f : Nat) : ∀ (k : Nat) (r : Lab) (t : Bool), i < k → Sound R r → Sound R (closeIn last i f k r t).1 := by
 induction f with
 | zero => intro k r t _ h; exact h
 | succ f ih =>
  intro k r t hk h
  unfold closeIn
  split
  ·rename_i hle
   refine ih _ _ _ (by omega) (sound_merge hR h ?_)
   rcases hl (r i) with h0 | ⟨h1, h2, h3⟩
   ·omega
   ·exact hb i k (last (r i)) hi0 (by omega) hle h2 (hR.trans _ _ _ (h i) h3)
  ·exact h
theorem sound_closeTo {R : Nat → Nat → Prop} (hR : Eqv R) {lo hi : Nat} (hb : Between R lo hi) {last : Nat → Nat} (hl : LastOk R lo hi last) (k : Nat) (s : Lab × Bool) (h : Sound R s.1) : Sound R (closeTo last lo hi k s).1 := by
 induction k with
 | zero => exact h
 | succ k ih =>
  unfold closeTo
  exact sound_closeIn hR hb hl (lo + k) (by omega) (hi + 1) _ _ _ (by omega) ih
theorem sound_closeF {R : Nat → Nat → Prop} (hR : Eqv R) {lo hi : Nat} (hb : Between R lo hi) {r : Lab} (h : Sound R r) : Sound R (closeF r lo hi).1 := by
 refine sound_closeTo hR hb (fun v => ?_) _ _ h
 rcases lastF_or r lo (hi - lo) v with h1 | ⟨h1, h2, h3⟩
 ·exact .inl h1
 ·refine .inr ⟨h1, by omega, ?_⟩
  have := h (lastF r lo (hi - lo) v)
  rw [h3] at this
  exact hR.symm _ _ this
theorem closeIn_false (last : Nat → Nat) (i : Nat) (f : Nat) : ∀ (k : Nat) (r : Lab) (t : Bool), (closeIn last i f k r t).2 = false → t = false ∧ (closeIn last i f k r t).1 = r ∧ ∀ j, k ≤ j → j ≤ last (r i) → j < k + f → r i = r j := by
 induction f with
 | zero => intro k r t h; exact ⟨h, rfl, fun j h1 _ h2 => by omega⟩
 | succ f ih =>
  intro k r t h
  unfold closeIn at h ⊢
  split
  ·rename_i hle
   rw [if_pos hle] at h
   obtain ⟨h1, h2, h3⟩ := ih _ _ _ h
   rw [Bool.or_eq_false_iff] at h1
   have he : r i = r k := by
    have := h1.1
    unfold two at this
    simpa using this
   have hm := merge_same r i k he
   rw [hm] at h2 h3 ⊢
   refine ⟨h1.2, h2, fun j ha hb hc => ?_⟩
   by_cases hj : j = k
   ·rw [hj]; exact he
   ·exact h3 j (by omega) hb (by omega)
  ·rename_i hle
   rw [if_neg hle] at h
   exact ⟨h, rfl, fun j ha hb hc => by omega⟩
theorem closeTo_false (last : Nat → Nat) (lo hi : Nat) (k : Nat) (s : Lab × Bool) : (closeTo last lo hi k s).2 = false → s.2 = false ∧ (closeTo last lo hi k s).1 = s.1 ∧ ∀ i j, lo ≤ i → i < lo + k → i < j → j ≤ last (s.1 i) → j < hi → s.1 i = s.1 j := by
 induction k with
 | zero => intro h; exact ⟨h, rfl, fun i j h1 h2 => by omega⟩
 | succ k ih =>
  intro h
  unfold closeTo at h ⊢
  dsimp only at h ⊢
  obtain ⟨h1, h2, h3⟩ := closeIn_false _ _ _ _ _ _ h
  obtain ⟨g1, g2, g3⟩ := ih h1
  refine ⟨g1, by rw [h2, g2], fun i j ha hb hc hd he => ?_⟩
  by_cases hi' : i = lo + k
  ·subst hi'
   rw [g2] at h3
   exact h3 j (by omega) hd (by omega)
  ·exact g3 i j ha (by omega) hc hd he
theorem closeF_false (r : Lab) (lo hi : Nat) (h : (closeF r lo hi).2 = false) : (closeF r lo hi).1 = r ∧ Between (fun x y => r x = r y) lo hi := by
 unfold closeF at h ⊢
 obtain ⟨_, h2, h3⟩ := closeTo_false _ _ _ _ _ h
 refine ⟨h2, fun i j k h0 h1 hjk hk he => ?_⟩
 by_cases hij : i = j
 ·rw [hij]
 ·have hlt : lo < hi := by omega
  have := lastF_ge r lo (hi - lo) k (by omega) (by omega)
  dsimp only at he
  rw [← he] at this
  exact h3 i j h0 (by omega) (by omega) (by show j ≤ lastF r lo (hi - lo) (r i); omega) (by omega)
theorem roundF_false (n m : Nat) (r : Lab) (h : (roundF n m r).2 = false) : (roundF n m r).1 = r ∧ Between (fun x y => r x = r y) 0 n ∧ Between (fun x y => r x = r y) n (n + m) := by
 unfold roundF at h ⊢
 dsimp only at h ⊢
 rw [Bool.or_eq_false_iff] at h
 obtain ⟨h1, h2⟩ := closeF_false _ _ _ h.1
 rw [h1] at h ⊢
 obtain ⟨h3, h4⟩ := closeF_false _ _ _ h.2
 exact ⟨h3, h2, h4⟩
theorem closeIn_keep (last : Nat → Nat) (i : Nat) (f : Nat) : ∀ (k : Nat) (r : Lab) (t : Bool) (x y : Nat), r x = r y → (closeIn last i f k r t).1 x = (closeIn last i f k r t).1 y := by
 induction f with
 | zero => intro k r t x y h; exact h
 | succ f ih =>
  intro k r t x y h
  unfold closeIn
  split
  ·exact ih _ _ _ _ _ (merge_keep _ _ _ _ _ h)
  ·exact h
theorem closeTo_keep (last : Nat → Nat) (lo hi k : Nat) (s : Lab × Bool) (x y : Nat) (h : s.1 x = s.1 y) : (closeTo last lo hi k s).1 x = (closeTo last lo hi k s).1 y := by
 induction k with
 | zero => exact h
 | succ k ih => unfold closeTo; exact closeIn_keep _ _ _ _ _ _ _ _ ih
theorem roundF_keep (n m : Nat) (r : Lab) (x y : Nat) (h : r x = r y) : (roundF n m r).1 x = (roundF n m r).1 y := by
 unfold roundF closeF
 exact closeTo_keep _ _ _ _ _ _ _ (closeTo_keep _ _ _ _ _ _ _ h)
theorem roundsF_keep (n m : Nat) (f : Nat) : ∀ (r : Lab) (x y : Nat), r x = r y → roundsF n m f r x = roundsF n m f r y := by
 induction f with
 | zero => intro r x y h; exact h
 | succ f ih =>
  intro r x y h
  unfold roundsF
  dsimp only
  split
  ·exact ih _ _ _ (roundF_keep n m r x y h)
  ·exact roundF_keep n m r x y h
theorem sound_roundF {n m : Nat} {l : List Lk} {R : Nat → Nat → Prop} (hR : Closed n m l R) {r : Lab} (h : Sound R r) : Sound R (roundF n m r).1 :=
 sound_closeF hR.eqv (fun i j k h0 h1 h2 h3 h4 => hR.conv2 i j k h0 h1 h2 h3 h4) (sound_closeF hR.eqv (fun i j k h0 h1 h2 h3 h4 => hR.conv1 i j k h1 h2 h3 h4) h)
theorem sound_roundsF {n m : Nat} {l : List Lk} {R : Nat → Nat → Prop} (hR : Closed n m l R) (f : Nat) : ∀ (r : Lab), Sound R r → Sound R (roundsF n m f r) := by
 induction f with
 | zero => intro r h; exact h
 | succ f ih =>
  intro r h
  unfold roundsF
  dsimp only
  split
  ·exact ih _ (sound_roundF hR h)
  ·exact sound_roundF hR h
def sumL (r : Lab) : Nat → Nat
 | 0 => 0
 | N + 1 => sumL r N + r N
theorem sumL_le {r q : Lab} (h : ∀ x, q x ≤ r x) (N : Nat) : sumL q N ≤ sumL r N := by
 induction N with
 | zero => exact Nat.le_refl _
 | succ N ih => unfold sumL; have := h N; omega
theorem sumL_lt {r q : Lab} (h : ∀ x, q x ≤ r x) (N x : Nat) (hx : x < N) (hl : q x < r x) : sumL q N < sumL r N := by
 induction N with
 | zero => omega
 | succ N ih =>
  unfold sumL
  have h1 := h N
  by_cases hxn : x = N
  ·subst hxn; have := sumL_le h x; omega
  ·have := ih (by omega); omega
theorem two_lt (r : Lab) (a b N : Nat) (ha : a < N) (hb : b < N) (h : two r a b = true) : sumL (merge r a b) N < sumL r N := by
 unfold two at h
 have hne : r a ≠ r b := by simpa using h
 by_cases hle : r a ≤ r b
 ·refine sumL_lt (merge_le r a b) N b hb ?_
  unfold merge
  rw [if_pos (by omega)]; omega
 ·refine sumL_lt (merge_le r a b) N a ha ?_
  unfold merge
  rw [if_pos (by omega)]; omega
theorem closeIn_sum (last : Nat → Nat) (i N : Nat) (hi : i < N) (hl : ∀ v, last v < N) (f : Nat) : ∀ (k : Nat) (r : Lab) (t : Bool), sumL (closeIn last i f k r t).1 N ≤ sumL r N ∧ ((closeIn last i f k r t).2 = true → t = true ∨ sumL (closeIn last i f k r t).1 N < sumL r N) := by
 induction f with
 | zero => intro k r t; exact ⟨Nat.le_refl _, fun h => .inl h⟩
 | succ f ih =>
  intro k r t
  unfold closeIn
  split
  ·rename_i hle
   obtain ⟨h1, h2⟩ := ih (k + 1) (merge r i k) (two r i k || t)
   have hm := sumL_le (merge_le r i k) N
   refine ⟨Nat.le_trans h1 hm, fun h => ?_⟩
   rcases h2 h with h3 | h3
   ·rw [Bool.or_eq_true] at h3
    rcases h3 with h3 | h3
    ·have := two_lt r i k N hi (by have := hl (r i); omega) h3
     exact .inr (by omega)
    ·exact .inl h3
   ·exact .inr (by omega)
  ·exact ⟨Nat.le_refl _, fun h => .inl h⟩
theorem closeTo_sum (last : Nat → Nat) (lo hi N : Nat) (hN : hi ≤ N) (hl : ∀ v, last v < N) (k : Nat) (hk : lo + k ≤ hi) (s : Lab × Bool) : sumL (closeTo last lo hi k s).1 N ≤ sumL s.1 N ∧ ((closeTo last lo hi k s).2 = true → s.2 = true ∨ sumL (closeTo last lo hi k s).1 N < sumL s.1 N) := by
 induction k with
 | zero => exact ⟨Nat.le_refl _, fun h => .inl h⟩
 | succ k ih =>
  unfold closeTo
  dsimp only
  obtain ⟨h1, h2⟩ := ih (by omega)
  obtain ⟨g1, g2⟩ := closeIn_sum last (lo + k) N (by omega) hl (hi + 1) (lo + k + 1) (closeTo last lo hi k s).1 (closeTo last lo hi k s).2
  refine ⟨by omega, fun h => ?_⟩
  rcases g2 h with h3 | h3
  ·rcases h2 h3 with h4 | h4
   ·exact .inl h4
   ·exact .inr (by omega)
  ·exact .inr (by omega)
theorem closeF_sum (r : Lab) (lo hi N : Nat) (h : lo < hi) (hN : hi ≤ N) : sumL (closeF r lo hi).1 N ≤ sumL r N ∧ ((closeF r lo hi).2 = true → sumL (closeF r lo hi).1 N < sumL r N) := by
 unfold closeF
 obtain ⟨h1, h2⟩ := closeTo_sum (lastF r lo (hi - lo)) lo hi N hN (fun v => by have := lastF_lt r lo hi h v; omega) (hi - lo) (by omega) (r, false)
 exact ⟨h1, fun h => (h2 h).resolve_left (by simp)⟩
theorem roundF_sum (n m : Nat) (hn : 0 < n) (hm : 0 < m) (r : Lab) : sumL (roundF n m r).1 (n + m) ≤ sumL r (n + m) ∧ ((roundF n m r).2 = true → sumL (roundF n m r).1 (n + m) < sumL r (n + m)) := by
 unfold roundF
 dsimp only
 obtain ⟨h1, h2⟩ := closeF_sum r 0 n (n + m) hn (by omega)
 obtain ⟨h3, h4⟩ := closeF_sum (closeF r 0 n).1 n (n + m) (n + m) (by omega) (Nat.le_refl _)
 refine ⟨by omega, fun h => ?_⟩
 rw [Bool.or_eq_true] at h
 rcases h with h | h
 ·have := h2 h; omega
 ·have := h4 h; omega
def endF (n m : Nat) (r : Lab) : Lab := roundsF n m (sumL r (n + m) + 1) r
theorem rounds_fuel (n m : Nat) (hn : 0 < n) (hm : 0 < m) (s : Nat) : ∀ (r : Lab) (f g : Nat), sumL r (n + m) ≤ s → sumL r (n + m) < f → sumL r (n + m) < g → roundsF n m f r = roundsF n m g r := by
 induction s with
 | zero =>
  intro r f g h hf hg
  obtain ⟨f, rfl⟩ : ∃ x, f = x + 1 := ⟨f - 1, by omega⟩
  obtain ⟨g, rfl⟩ : ∃ x, g = x + 1 := ⟨g - 1, by omega⟩
  unfold roundsF
  dsimp only
  have := (roundF_sum n m hn hm r).2
  split
  ·rename_i h2; have := this h2; omega
  ·rfl
 | succ s ih =>
  intro r f g h hf hg
  obtain ⟨f, rfl⟩ : ∃ x, f = x + 1 := ⟨f - 1, by omega⟩
  obtain ⟨g, rfl⟩ : ∃ x, g = x + 1 := ⟨g - 1, by omega⟩
  unfold roundsF
  dsimp only
  have := (roundF_sum n m hn hm r).2
  split
  ·rename_i h2
   have := this h2
   exact ih _ _ _ (by omega) (by omega) (by omega)
  ·rfl
theorem endF_step (n m : Nat) (hn : 0 < n) (hm : 0 < m) (r : Lab) : endF n m r = if (roundF n m r).2 then endF n m (roundF n m r).1 else (roundF n m r).1 := by
 conv => lhs; unfold endF
 unfold roundsF
 dsimp only
 split
 ·rename_i h
  have := (roundF_sum n m hn hm r).2 h
  exact rounds_fuel n m hn hm _ _ _ _ (Nat.le_refl _) this (by omega)
 ·rfl
theorem endF_end (n m : Nat) (hn : 0 < n) (hm : 0 < m) (s : Nat) : ∀ r : Lab, sumL r (n + m) ≤ s → Between (fun x y => endF n m r x = endF n m r y) 0 n ∧ Between (fun x y => endF n m r x = endF n m r y) n (n + m) := by
 induction s with
 | zero =>
  intro r h
  rw [endF_step n m hn hm r]
  split
  ·rename_i h2; have := (roundF_sum n m hn hm r).2 h2; omega
  ·rename_i h2
   obtain ⟨h3, h4⟩ := roundF_false n m r (by simpa using h2)
   rw [h3]; exact h4
 | succ s ih =>
  intro r h
  rw [endF_step n m hn hm r]
  split
  ·rename_i h2
   have := (roundF_sum n m hn hm r).2 h2
   exact ih _ (by omega)
  ·rename_i h2
   obtain ⟨h3, h4⟩ := roundF_false n m r (by simpa using h2)
   rw [h3]; exact h4
theorem endF_keep (n m : Nat) (r : Lab) (x y : Nat) (h : r x = r y) : endF n m r x = endF n m r y := roundsF_keep n m _ r x y h
def idL : Lab := fun x => x
def finL (n m : Nat) (l : List Lk) : Lab := endF n m (strayF l n (linksF n idL l) n)
theorem finL_sound {n m : Nat} {l : List Lk} {R : Nat → Nat → Prop} (hR : Closed n m l R) (hw : ∀ x ∈ l, x.a < x.b ∧ x.c < x.d) (hf : firstF l n < n) : Sound R (finL n m l) :=
 sound_roundsF hR _ _ (sound_stray hR hf n (Nat.le_refl _) _ (sound_linksF hR l (fun _ h => h) hw _ (fun x => hR.eqv.refl x)))
theorem finL_closed {n m : Nat} {l : List Lk} (hn : 0 < n) (hm : 0 < m) (hw : ∀ x ∈ l, x.a < x.b ∧ x.c < x.d) (hf : firstF l n < n) : Closed n m l (fun x y => finL n m l x = finL n m l y) where
 eqv := ⟨fun _ => rfl, fun _ _ h => h.symm, fun _ _ _ h k => h.trans k⟩
 ins := fun x hx i h1 h2 => endF_keep _ _ _ _ _ (strayF_keep _ _ _ _ _ _ ((linksF_all n l hw idL x hx).1 i h1 h2))
 outs := fun x hx i h1 h2 => endF_keep _ _ _ _ _ (strayF_keep _ _ _ _ _ _ ((linksF_all n l hw idL x hx).2.1 i h1 h2))
 both := fun x hx => endF_keep _ _ _ _ _ (strayF_keep _ _ _ _ _ _ (linksF_all n l hw idL x hx).2.2)
 stray := fun i h0 hi hl => by
  by_cases hif : firstF l n < i
  ·exact endF_keep _ _ _ _ _ (stray_behind l n _ i hif hi hl)
  ·have hne : i ≠ firstF l n := fun e => by
    have := first_linked l n hf
    rw [← e, hl] at this
    cases this
   have := stray_ahead l n (linksF n idL l) (i - 1) (by omega)
   rw [show i - 1 + 1 = i by omega] at this
   exact endF_keep _ _ _ _ _ this
 ahead := fun i hi _ => endF_keep _ _ _ _ _ (stray_ahead l n _ i hi)
 conv1 := fun i j k h1 h2 h3 h4 => (endF_end n m hn hm _ _ (Nat.le_refl _)).1 i j k (Nat.zero_le _) h1 h2 h3 h4
 conv2 := fun i j k h0 h1 h2 h3 h4 => (endF_end n m hn hm _ _ (Nat.le_refl _)).2 i j k h0 h1 h2 h3 h4
end Go.Proofs.Ytohhobcipfmkbaa.UFinest
namespace Go.Proofs.Ytohhobcipfmkbaa.UFinest
def setL (L : Lab) (lo hi v : Nat) : Lab := fun x => if lo ≤ x ∧ x < hi then v else L x
def chg (L : Lab) (lo : Nat) (v : Nat) : Nat → Bool
 | 0 => false
 | k + 1 => chg L lo v k || decide (L (lo + k) ≠ v)
def leastL (L : Lab) (lo : Nat) : Nat → Nat
 | 0 => L lo
 | k + 1 => min (leastL L lo k) (L (lo + k))
def hullL (L : Lab) (lo v : Nat) : Nat → Nat × Nat
 | 0 => (0, 0)
 | k + 1 => let s := hullL L lo v k
  if L (lo + k) = v then ((if s.2 = 0 then k else s.1), k + 1) else s
theorem hullL_is (L : Lab) (lo v k : Nat) : ((hullL L lo v k) = (0, 0) ∧ ∀ i, i < k → L (lo + i) ≠ v) ∨ ((hullL L lo v k).1 < (hullL L lo v k).2 ∧ (hullL L lo v k).2 ≤ k ∧ L (lo + (hullL L lo v k).1) = v ∧ L (lo + (hullL L lo v k).2 - 1) = v ∧ ∀ i, i < k → L (lo + i) = v → (hullL L lo v k).1 ≤ i ∧ i < (hullL L lo v k).2) := by
 induction k with
 | zero => exact .inl ⟨rfl, fun i h => by omega⟩
 | succ k ih =>
  unfold hullL
  dsimp only
  split
  ·rename_i h
   right
   rcases ih with ⟨h1, h2⟩ | ⟨h1, h2, h3, h4, h5⟩
   ·rw [h1]
    refine ⟨by simp, by simp, by simpa using h, by simpa [Nat.add_sub_assoc] using h, fun i hi he => ?_⟩
    by_cases hik : i = k
    ·subst hik; simp
    ·exact absurd he (h2 i (by omega))
   ·rw [if_neg (by omega)]
    refine ⟨by dsimp only; omega, by dsimp only; omega, h3, by dsimp only; rw [show lo + (k + 1) - 1 = lo + k by omega]; exact h, fun i hi he => ?_⟩
    dsimp only
    by_cases hik : i = k
    ·subst hik; omega
    ·have := h5 i (by omega) he; omega
  ·rename_i h
   rcases ih with ⟨h1, h2⟩ | ⟨h1, h2, h3, h4, h5⟩
   ·left
    refine ⟨h1, fun i hi he => ?_⟩
    by_cases hik : i = k
    ·subst hik; exact h he
    ·exact h2 i (by omega) he
   ·right
    refine ⟨h1, by omega, h3, h4, fun i hi he => ?_⟩
    by_cases hik : i = k
    ·subst hik; exact absurd he h
    ·exact h5 i (by omega) he
def wholeTo (L : Lab) (lo len : Nat) : Nat → Lab × Bool
 | 0 => (L, false)
 | k + 1 => let q := wholeTo L lo len k
  let s := hullL q.1 lo (q.1 (lo + k)) len
  let v := leastL q.1 (lo + s.1) (s.2 - s.1)
  (setL q.1 (lo + s.1) (lo + s.1 + (s.2 - s.1)) v, chg q.1 (lo + s.1) v (s.2 - s.1) || q.2)
end Go.Proofs.Ytohhobcipfmkbaa.UFinest
end
section
namespace Go.Proofs.Ytohhobcipfmkbaa.U
open Go.RowKit Go.Proofs.YtohhobcipfmkbaaW.PrintWords
theorem ev_now {α : Type} (r : α) : Ev (fun _ => some r) r := ⟨0, fun _ _ => rfl⟩
theorem ev_pos {α : Type} {c : Prop} [Decidable c] {f g : Nat → Option α} {r : α} (hc : c) (h : Ev f r) : Ev (fun k => if c then f k else g k) r := by
 simpa only [if_pos hc] using h
theorem ev_neg {α : Type} {c : Prop} [Decidable c] {f g : Nat → Option α} {r : α} (hc : ¬ c) (h : Ev g r) : Ev (fun k => if c then f k else g k) r := by
 simpa only [if_neg hc] using h
theorem ev_bindc {α β : Type} {x : Option α} {f : Nat → α → Option β} {a : α} {r : β} (h : x = some a) (k : Ev (fun n => f n a) r) : Ev (fun n => x.bind (f n)) r := by
 simpa only [h, Option.bind_some] using k
theorem ev_eq {α : Type} {g : Nat → Option α} {r r' : α} (h : Ev g r) (e : r = r') : Ev g r' := e ▸ h
theorem w64 {n : Int} (h0 : -9223372036854775808 ≤ n) (h1 : n ≤ 9223372036854775807) : wrap64 n = n := by unfold wrap64; omega
theorem rd_nat (xs : List Int) (i : Nat) : rd xs (i : Int) = xs.getD i 0 := by
 unfold rd
 rw [Int.toNat_natCast]
end Go.Proofs.Ytohhobcipfmkbaa.U
namespace Go.Proofs.Ytohhobcipfmkbaa.U
open Go.RowKit Go.Proofs.YtohhobcipfmkbaaW.PrintWords
theorem R_form {α : Type} {d : Kd α} {e : TypeId} {w : World} {base : Nat} {ok : Nat → Prop} {v : Value} {xs : List α} (h : d.R e w base ok v xs) (hb : ∃ b, v.ownBlock = some b) : ∃ g cap, v = .slice (some ⟨g, 0, none⟩) xs.length cap ∧ base ≤ g := by
 obtain ⟨inner, h1, h2⟩ := Kd.R_own h
 obtain ⟨b, hb⟩ := hb
 rcases h2 with ⟨rfl, _⟩ | ⟨g, cap, cur, rfl, hg, _⟩
 ·simp [Value.ownBlock] at hb
 ·exact ⟨g, cap, rfl, hg⟩
theorem grown_set (w : World) (g j : Nat) (u : Value) : w.grownBy (w.setCell ⟨g, j, none⟩ u) (some g) :=
 ⟨rfl, rfl, rfl, by simp [World.setCell], fun k _ hk => Below.heap_setCell w ⟨g, j, none⟩ u k (fun e => hk (by rw [e]))⟩
def SLk {α : Type} (d : Kd α) (w : World) (v : Value) (xs : List α) : Prop := ∃ A c, v = .slice A xs.length c ∧ xs.length ≤ c ∧ d.C w A xs.length xs
abbrev SL (w : World) (v : Value) (xs : List Int) : Prop := SLk (Kd.int .i64) w v xs
theorem SLk.mk {α : Type} {d : Kd α} {w : World} {A : Option Addr} {c : Nat} {xs : List α} (h : d.C w A xs.length xs) (hc : xs.length ≤ c) : SLk d w (.slice A xs.length c) xs := ⟨A, c, rfl, hc, h⟩
theorem SLk.of_R {α : Type} {d : Kd α} {e : TypeId} {w : World} {base : Nat} {ok : Nat → Prop} {v : Value} {xs : List α} (h : d.R e w base ok v xs) : SLk d w v xs := by
 obtain ⟨A, c, rfl, h1, h2⟩ := Kd.R_reads h
 exact ⟨A, c, rfl, h1, h2⟩
theorem SLk.below {α : Type} {d : Kd α} {w w' : World} {v : Value} {xs : List α} (h : SLk d w v xs) (hb : Below w.heap.size w w') : SLk d w' v xs := by
 obtain ⟨A, c, rfl, h1, h2⟩ := h
 exact ⟨A, c, rfl, h1, Kd.C_below h2 hb⟩
theorem SLk.nil {α : Type} {d : Kd α} (w : World) : SLk d w (.slice none 0 0) ([] : List α) := by
 refine ⟨none, 0, rfl, Nat.le_refl _, ?_⟩
 exact ⟨rfl, by simp, fun h => absurd h (by simp)⟩
theorem SLk.at_int {k : IntKind} {w : World} {v : Value} {xs : List Int} (h : SLk (Kd.int k) w v xs) (i : Int) (h0 : 0 ≤ i) (h1 : i < xs.length) : ∃ ad c, v = .slice (some ad) xs.length c ∧ w.cell? (ad.add i.toNat) = some (.int k (rd xs i)) := by
 obtain ⟨A, c, rfl, _, h2⟩ := h
 obtain ⟨ad, rfl, h⟩ := Kd.at_int h2 i h0 h1
 exact ⟨ad, c, rfl, h⟩
end Go.Proofs.Ytohhobcipfmkbaa.U
namespace Go.Proofs.Ytohhobcipfmkbaa.U
open Go.RowKit Go.Proofs.YtohhobcipfmkbaaW.PrintWords
abbrev Hd := Option Addr × Nat × Nat
def encH (h : Hd) : Value := .slice h.1 h.2.1 h.2.2
def KH : Kd Hd := Kd.scalar encH (fun _ => rfl)
def RS (e : TypeId) (w : World) (base : Nat) (v : Value) (xss : List (List Int)) : Prop :=
 ∃ hs : List Hd, Kd.R KH e w base (fun _ => True) v hs ∧ hs.length = xss.length ∧ ∀ (i : Nat) (x : List Int), xss[i]? = some x → ∃ h : Hd, hs[i]? = some h ∧ SL w (encH h) x
theorem SL.header {w : World} {v : Value} {xs : List Int} (h : SL w v xs) : ∃ hd : Hd, v = encH hd := by
 obtain ⟨A, c, rfl, _⟩ := h
 exact ⟨(A, xs.length, c), rfl⟩
theorem RS.below {e : TypeId} {w w' : World} {base : Nat} {v : Value} {xss : List (List Int)} (h : RS e w base v xss) (hb : Below w.heap.size w w') : RS e w' base v xss := by
 obtain ⟨hs, h1, h2, h3⟩ := h
 exact ⟨hs, Kd.R_below h1 hb, h2, fun i x hx => let ⟨hd, a, b⟩ := h3 i x hx; ⟨hd, a, SLk.below b hb⟩⟩
theorem SL.set_slice {w : World} {v : Value} {xs : List Int} (h : SL w v xs) {g i : Nat} {hd : Hd} (hc : w.cell? ⟨g, i, none⟩ = some (encH hd)) (u : Value) : SL (w.setCell ⟨g, i, none⟩ u) v xs := by
 obtain ⟨A, c, rfl, hl, h1, h2, h3⟩ := h
 refine ⟨A, c, rfl, hl, h1, h2, fun hn => ?_⟩
 obtain ⟨ad, rfl, hcell⟩ := h3 hn
 refine ⟨ad, rfl, fun j p hj => ?_⟩
 obtain ⟨cs, hcl, hk, hcc⟩ := hcell j p hj
 refine ⟨cs, hcl, hk, fun k u' hu => ?_⟩
 have hold := hcc k u' hu
 have hne : ad.add (j * (Kd.int .i64).sz + k) ≠ ⟨g, i, none⟩ := by
  intro e
  rw [e, hc] at hold
  have hk' : cs = [.int .i64 p] := hk
  subst hk'
  cases k with
  | zero => simp at hu; subst hu; simp [encH] at hold
  | succ k => simp at hu
 have hlt := World.block_lt_of_cell? w _ hold
 rw [← hold]
 unfold World.cell? World.setCell
 simp only [Array.getElem?_modify]
 by_cases hb : g = (ad.add (j * (Kd.int .i64).sz + k)).block
 ·rw [if_pos hb]
  generalize hg : w.heap[(ad.add (j * (Kd.int .i64).sz + k)).block]? = o
  cases o with
  | none => rfl
  | some o =>
   cases o with
   | cells c t f =>
    simp only [Option.map_some]
    by_cases hsp : (ad.add (j * (Kd.int .i64).sz + k)).spot.isSome
    ·simp [hsp]
    ·simp only [hsp]
     simp
     rw [Array.getElem?_setIfInBounds_ne]
     intro ei
     apply hne
     generalize ad.add (j * (Kd.int .i64).sz + k) = q at *
     obtain ⟨qb, qo, qs⟩ := q
     simp at hb ei hsp
     subst hb ei hsp
     rfl
   | _ => rfl
 ·rw [if_neg hb]
theorem RS.cell {e : TypeId} {w : World} {base g n cap : Nat} {xss : List (List Int)} (h : RS e w base (.slice (some ⟨g, 0, none⟩) n cap) xss) (i : Nat) (hi : i < n) : (∃ hd : Hd, w.cell? ⟨g, i, none⟩ = some (encH hd)) ∧ w.frozen? ⟨g, i, none⟩ = false := by
 obtain ⟨hs, h1, h2, h3⟩ := h
 have hc := Kd.R_celln ((none, 0, 0) : Hd) h1 (i : Int) (by omega) (by omega)
 rw [Int.toNat_natCast] at hc
 exact ⟨⟨_, hc.1⟩, hc.2⟩
theorem RS.form {e : TypeId} {w : World} {base : Nat} {v : Value} {xss : List (List Int)} (h : RS e w base v xss) (hn : 0 < xss.length) : ∃ g cap, v = .slice (some ⟨g, 0, none⟩) xss.length cap ∧ base ≤ g ∧ xss.length ≤ cap := by
 obtain ⟨hs, h1, h2, h3⟩ := h
 obtain ⟨inner, a, b⟩ := Kd.R_own h1
 rcases b with ⟨_, b⟩ | ⟨g, cap, cur, rfl, hg, _, h4, _⟩
 ·omega
 ·exact ⟨g, cap, by rw [h2], hg, by omega⟩
theorem RS.slice {e : TypeId} {w : World} {base : Nat} {v : Value} {xss : List (List Int)} (h : RS e w base v xss) : ∃ A c, v = .slice A xss.length c := by
 obtain ⟨hs, h1, h2, h3⟩ := h
 obtain ⟨A, c, rfl⟩ := Kd.R_slice h1
 exact ⟨A, c, by rw [h2]⟩
theorem RS.nils {e : TypeId} {w : World} {base : Nat} {v : Value} {n : Nat} (h : Kd.R KH e w base (fun _ => True) v (List.replicate n ((none, 0, 0) : Hd))) : RS e w base v (List.replicate n []) := by
 refine ⟨_, h, by simp, fun i x hx => ?_⟩
 rw [List.getElem?_replicate] at hx
 split at hx
 ·rename_i hi
  obtain rfl := Option.some.inj hx
  exact ⟨(none, 0, 0), by rw [List.getElem?_replicate, if_pos hi], SLk.nil w⟩
 ·cases hx
theorem RS.nil (e : TypeId) (w : World) (base : Nat) : RS e w base (.slice none 0 0) [] := ⟨[], Kd.R_nil _ _ _ _ _, rfl, fun i x hx => by simp at hx⟩
theorem RS.reads {e : TypeId} {w : World} {base : Nat} {v : Value} {xss : List (List Int)} (h : RS e w base v xss) (t : Nat) : SLk (Kd.slice t (Kd.int .i64)) w v xss := by
 obtain ⟨hs, h1, h2, h3⟩ := h
 obtain ⟨A, c, rfl, hc, hC⟩ := Kd.R_reads h1
 rw [h2] at hC hc ⊢
 refine ⟨A, c, rfl, hc, rfl, hC.2.1, fun hn => ?_⟩
 obtain ⟨ad, rfl, hcell⟩ := hC.2.2 hn
 refine ⟨ad, rfl, fun j p hj => ?_⟩
 obtain ⟨hd, a, b⟩ := h3 j p hj
 obtain ⟨cs, _, hk, hcc⟩ := hcell j hd a
 obtain ⟨A', c', e', hl, hC'⟩ := b
 refine ⟨[encH hd], rfl, ⟨A', c', by rw [e'], hl, hC'⟩, fun k u hu => ?_⟩
 have hk' : cs = [encH hd] := hk
 subst hk'
 exact hcc k u hu
end Go.Proofs.Ytohhobcipfmkbaa.U
end
section
namespace Go.Proofs.Ytohhobcipfmkbaa.UFinEv
open Go.RowKit Go.Proofs.YtohhobcipfmkbaaW.PrintWords Go.Proofs.Ytohhobcipfmkbaa.U Go.Proofs.Ytohhobcipfmkbaa.PClusterFinest Go.Proofs.Ytohhobcipfmkbaa.UFinest
def lkOf (x : S45) : Lk := ⟨x.f0.f0.toNat, x.f0.f1.toNat, x.f1.f0.toNat, x.f1.f1.toNat⟩
theorem rd45 {l : List S45} {i : Nat} (h : i < l.length) : rd_T45 l (i : Int) = l[i] := by
 unfold rd_T45
 rw [Int.toNat_natCast, List.getD_eq_getElem?_getD, List.getElem?_eq_getElem h]
 rfl
theorem wholeTo_out (L : Lab) (lo len : Nat) (x : Nat) (hx : x < lo ∨ lo + len ≤ x) (k : Nat) (hk : k ≤ len) : (wholeTo L lo len k).1 x = L x := by
 induction k with
 | zero => rfl
 | succ k ih =>
  have ih' := ih (by omega)
  unfold wholeTo
  dsimp only
  generalize wholeTo L lo len k = q at ih' ⊢
  have hs : (hullL q.1 lo (q.1 (lo + k)) len).2 ≤ len := by
   rcases hullL_is q.1 lo (q.1 (lo + k)) len with ⟨e, _⟩ | ⟨_, g, _⟩
   ·rw [e]; exact Nat.zero_le _
   ·exact g
  generalize hullL q.1 lo (q.1 (lo + k)) len = s at hs
  unfold setL
  by_cases hc : lo + s.1 ≤ x ∧ x < lo + s.1 + (s.2 - s.1)
  ·omega
  ·rw [if_neg hc]; exact ih'
end Go.Proofs.Ytohhobcipfmkbaa.UFinEv
namespace Go.Proofs.Ytohhobcipfmkbaa.UFinEv
open Go.RowKit Go.Proofs.YtohhobcipfmkbaaW.PrintWords Go.Proofs.Ytohhobcipfmkbaa.U Go.Proofs.Ytohhobcipfmkbaa.PClusterFinest Go.Proofs.Ytohhobcipfmkbaa.UFinest
def RepB (P : Nat → Bool) (l : List Bool) : Prop := ∀ i, i < l.length → l.getD i false = P i
theorem repB_set {P : Nat → Bool} {l : List Bool} (h : RepB P l) (i : Nat) (hi : i < l.length) : RepB (fun j => P j || decide (j = i)) (l.set i true) := by
 intro j hj
 rw [List.length_set] at hj
 by_cases hji : j = i
 ·subst hji
  rw [List.getD_eq_getElem?_getD, List.getElem?_set_self (by omega)]
  simp
 ·rw [List.getD_eq_getElem?_getD, List.getElem?_set_ne (Ne.symm hji), ← List.getD_eq_getElem?_getD, h j hj]
  simp [hji]
theorem rdB (l : List Bool) (i : Nat) : rdOf false l (i : Int) = l.getD i false := by
 unfold rdOf
 rw [Int.toNat_natCast]
structure LinkOk (n m : Nat) (x : S45) : Prop where
 a0 : 0 ≤ x.f0.f0
 ab : x.f0.f0 < x.f0.f1
 bn : x.f0.f1 ≤ n
 c0 : 0 ≤ x.f1.f0
 cd : x.f1.f0 < x.f1.f1
 dm : x.f1.f1 ≤ m
end Go.Proofs.Ytohhobcipfmkbaa.UFinEv
namespace Go.Proofs.Ytohhobcipfmkbaa.UFinEv
open Go.RowKit Go.Proofs.YtohhobcipfmkbaaW.PrintWords Go.Proofs.Ytohhobcipfmkbaa.U Go.Proofs.Ytohhobcipfmkbaa.PClusterFinest Go.Proofs.Ytohhobcipfmkbaa.UFinest
def fitB (lo hi n : Int) : Bool := decide (0 ≤ lo) && decide (lo < hi) && decide (hi ≤ n)
def okB (n m : Int) (x : S45) : Bool := fitB x.f0.f0 x.f0.f1 n && fitB x.f1.f0 x.f1.f1 m
def outB (l : List S45) (k : Nat) : Bool := l.any fun x => decide (x.f1.f0 ≤ k) && decide ((k : Int) < x.f1.f1)
def wrongIn (n m : Int) (l : List S45) : Int := if m = 0 ∧ n > 0 then 8 else if n = 0 ∧ m > 0 then 13 else if (List.range m.toNat).all (outB l) then 0 else 13
def wrongR (n m : Int) (l : List S45) : Int := if n < 0 ∨ n > 16777216 ∨ m < 0 ∨ m > 16777216 then 1 else if l.all (okB n m) then wrongIn n m l else 1
end Go.Proofs.Ytohhobcipfmkbaa.UFinEv
namespace Go.Proofs.Ytohhobcipfmkbaa.UFinest
structure LabOk (N : Nat) (r : Lab) : Prop where
 le : ∀ i, i < N → r i ≤ i
 rr : ∀ i, i < N → r (r i) = r i
def PF (N : Nat) (r : Lab) (p : List Int) : Prop := ∀ i, i < N → ∃ q : Nat, p.getD i 0 = (q : Int) ∧ q ≤ i ∧ r q = r i ∧ (q = i → r i = i)
theorem getD_set_self (p : List Int) (i : Nat) (x : Int) (h : i < p.length) : (p.set i x).getD i 0 = x := by
 rw [List.getD_eq_getElem?_getD, List.getElem?_set_self h]; rfl
theorem getD_set_ne (p : List Int) (i j : Nat) (x : Int) (h : j ≠ i) : (p.set i x).getD j 0 = p.getD j 0 := by
 rw [List.getD_eq_getElem?_getD, List.getElem?_set_ne (Ne.symm h), ← List.getD_eq_getElem?_getD]
theorem PF.half {N : Nat} {r : Lab} {p : List Int} (h : PF N r p) (hl : p.length = N) {i q q2 : Nat} (hi : i < N) (h1 : p.getD i 0 = (q : Int)) (h2 : p.getD q 0 = (q2 : Int)) : PF N r (p.set i (q2 : Int)) := by
 intro j hj
 by_cases e : j = i
 ·subst e
  obtain ⟨a, a1, a2, a3, a4⟩ := h j hi
  have ea : a = q := by omega
  subst ea
  obtain ⟨b, b1, b2, b3, b4⟩ := h a (by omega)
  have eb : b = q2 := by omega
  subst eb
  exact ⟨b, getD_set_self p j _ (by omega), by omega, b3.trans a3, fun e => a4 (by omega)⟩
 ·obtain ⟨a, a1, a2, a3, a4⟩ := h j hj
  exact ⟨a, (getD_set_ne p i j _ e).trans a1, a2, a3, a4⟩
theorem LabOk.merge {N : Nat} {r : Lab} (h : LabOk N r) (a b : Nat) (ha : a < N) (hb : b < N) : LabOk N (merge r a b) := by
 have h1 := h.le a ha
 have h2 := h.le b hb
 have h3 := h.rr a ha
 have h4 := h.rr b hb
 refine ⟨fun i hi => Nat.le_trans (merge_le _ _ _ _) (h.le i hi), fun i hi => ?_⟩
 have h5 := h.rr i hi
 unfold UFinest.merge
 by_cases e : r i = max (r a) (r b)
 ·rw [if_pos e]
  rcases Nat.le_total (r a) (r b) with hab | hab
  ·rw [Nat.min_eq_left hab, Nat.max_eq_right hab, h3]; split <;> omega
  ·rw [Nat.min_eq_right hab, Nat.max_eq_left hab, h4]; split <;> omega
 ·rw [if_neg e, h5, if_neg e]
theorem PF.join {N : Nat} {r : Lab} {p : List Int} (h : PF N r p) (ho : LabOk N r) (hl : p.length = N) (a b : Nat) (ha : a < N) (hb : b < N) (hne : r a ≠ r b) : PF N (merge r a b) (p.set (max (r a) (r b)) ((min (r a) (r b) : Nat) : Int)) := by
 have h1 := ho.le a ha
 have h2 := ho.le b hb
 have h3 := ho.rr a ha
 have h4 := ho.rr b hb
 have hM : r (max (r a) (r b)) = max (r a) (r b) := by
  rcases Nat.le_total (r a) (r b) with hab | hab
  ·rw [Nat.max_eq_right hab]; exact h4
  ·rw [Nat.max_eq_left hab]; exact h3
 have hm : r (min (r a) (r b)) = min (r a) (r b) := by
  rcases Nat.le_total (r a) (r b) with hab | hab
  ·rw [Nat.min_eq_left hab]; exact h3
  ·rw [Nat.min_eq_right hab]; exact h4
 intro j hj
 by_cases e : j = max (r a) (r b)
 ·refine ⟨min (r a) (r b), ?_, by omega, ?_, fun h => by omega⟩
  ·rw [e]; exact getD_set_self p _ _ (by omega)
  ·rw [e]
   unfold UFinest.merge
   rw [hm, hM, if_pos rfl, if_neg (by omega)]
 ·obtain ⟨q, q1, q2, q3, q4⟩ := h j hj
  refine ⟨q, (getD_set_ne p _ _ _ e).trans q1, q2, merge_keep r a b q j q3, fun eq => ?_⟩
  have := q4 eq
  unfold UFinest.merge
  rw [this, if_neg e]
theorem PF.root {N : Nat} {r : Lab} {p : List Int} (h : PF N r p) {i : Nat} (hi : i < N) (he : p.getD i 0 = (i : Int)) : r i = i := by
 obtain ⟨q, q1, q2, q3, q4⟩ := h i hi
 exact q4 (by omega)
theorem PF.up {N : Nat} {r : Lab} {p : List Int} (h : PF N r p) {i : Nat} (hi : i < N) (he : p.getD i 0 ≠ (i : Int)) : ∃ q : Nat, p.getD i 0 = (q : Int) ∧ q < i ∧ r q = r i := by
 obtain ⟨q, q1, q2, q3, q4⟩ := h i hi
 exact ⟨q, q1, by rcases Nat.lt_or_ge q i with h | h; exact h; exact absurd (by rw [q1]; omega) he, q3⟩
theorem labOk_id (N : Nat) : LabOk N idL := ⟨fun _ _ => Nat.le_refl _, fun _ _ => rfl⟩
theorem PF.id {N : Nat} {p : List Int} (h : ∀ i, i < N → p.getD i 0 = (i : Int)) : PF N idL p := fun i hi => ⟨i, h i hi, Nat.le_refl _, rfl, fun _ => rfl⟩
theorem two_false {r : Lab} {a b : Nat} (h : r a = r b) : two r a b = false := by unfold two; rw [decide_eq_false_iff_not]; exact fun h' => h' h
theorem two_true {r : Lab} {a b : Nat} (h : r a ≠ r b) : two r a b = true := by unfold two; exact decide_eq_true h
end Go.Proofs.Ytohhobcipfmkbaa.UFinest
namespace Go.Proofs.Ytohhobcipfmkbaa.UFinest
structure FinOk (n m : Nat) (l : List Lk) (L : Lab) : Prop where
 sound : ∀ R, Closed n m l R → Sound R L
 closed : Closed n m l (fun x y => L x = L y)
abbrev Clu := (Nat × Nat) × (Nat × Nat)
def cluTo (n m : Nat) (L : Lab) (k : Nat) : List Clu := (List.range k).filterMap fun i => if i = 0 ∨ L i ≠ L (i - 1) then some (hullL L 0 (L i) n, hullL L n (L i) m) else none
theorem cluTo_add (n m : Nat) (L : Lab) (k : Nat) : cluTo n m L (k + 1) = cluTo n m L k ++ (if k = 0 ∨ L k ≠ L (k - 1) then [(hullL L 0 (L k) n, hullL L n (L k) m)] else []) := by
 unfold cluTo
 rw [List.range_succ, List.filterMap_append]
 by_cases h : k = 0 ∨ L k ≠ L (k - 1)
 ·rw [if_pos h]; simp [List.filterMap_cons, h]
 ·rw [if_neg h]; simp [List.filterMap_cons, h]
end Go.Proofs.Ytohhobcipfmkbaa.UFinest
namespace Go.Proofs.Ytohhobcipfmkbaa.UFinest
def firsts (r : Lab) : Nat → List Nat
 | 0 => []
 | k + 1 => if r k ∈ firsts r k then firsts r k else firsts r k ++ [r k]
theorem mem_firsts (r : Lab) (k v : Nat) : v ∈ firsts r k ↔ ∃ i, i < k ∧ r i = v := by
 induction k with
 | zero => simp [firsts]
 | succ k ih =>
  unfold firsts
  by_cases h : r k ∈ firsts r k
  ·rw [if_pos h, ih]
   constructor
   ·rintro ⟨i, hi, e⟩; exact ⟨i, by omega, e⟩
   ·rintro ⟨i, hi, e⟩
    rcases Nat.lt_or_ge i k with h' | h'
    ·exact ⟨i, h', e⟩
    ·obtain rfl : i = k := by omega
     exact ih.1 (e ▸ h)
  ·rw [if_neg h, List.mem_append, ih, List.mem_singleton]
   constructor
   ·rintro (⟨i, hi, e⟩ | e)
    ·exact ⟨i, by omega, e⟩
    ·exact ⟨k, by omega, e.symm⟩
   ·rintro ⟨i, hi, e⟩
    rcases Nat.lt_or_ge i k with h' | h'
    ·exact .inl ⟨i, h', e⟩
    ·obtain rfl : i = k := by omega
     exact .inr e.symm
theorem firsts_nodup (r : Lab) (k : Nat) : (firsts r k).Nodup := by
 induction k with
 | zero => exact List.nodup_nil
 | succ k ih =>
  unfold firsts
  split
  ·exact ih
  ·rename_i h
   rw [List.nodup_append]
   exact ⟨ih, by simp, fun a ha b hb e => h (by rw [List.mem_singleton] at hb; rw [← hb, ← e]; exact ha)⟩
theorem firsts_len (r : Lab) (k : Nat) : (firsts r k).length ≤ k := by
 induction k with
 | zero => exact Nat.le_refl _
 | succ k ih =>
  unfold firsts
  split
  ·omega
  ·simp; exact ih
theorem map_set_idx {β : Type} (l : List Nat) (hn : l.Nodup) (v : Nat) (hv : v ∈ l) (f f' : Nat → β) (h : ∀ x ∈ l, x ≠ v → f' x = f x) : l.map f' = (l.map f).set (l.idxOf v) (f' v) := by
 apply List.ext_getElem (by simp)
 intro i h1 h2
 have hi : i < l.length := by simpa using h1
 rw [List.getElem_set]
 by_cases e : l.idxOf v = i
 ·rw [if_pos e]
  subst e
  rw [List.getElem_map, List.getElem_idxOf]
 ·rw [if_neg e, List.getElem_map, List.getElem_map]
  refine h _ (List.getElem_mem hi) fun e' => e ?_
  rw [← e']
  exact hn.idxOf_getElem i hi
def clu1 (r : Lab) (m k : Nat) (v : Nat) : Clu := (hullL r 0 v k, (m, 0))
def out2 (r : Lab) (n m : Nat) (v t : Nat) : Nat × Nat := if (hullL r n v t).2 = 0 then (m, 0) else hullL r n v t
def clu2 (r : Lab) (n m t : Nat) (v : Nat) : Clu := (hullL r 0 v n, out2 r n m v t)
theorem hull_far {r : Lab} {lo v k : Nat} (h : r (lo + k) ≠ v) : hullL r lo v (k + 1) = hullL r lo v k := by
 show (if r (lo + k) = v then _ else _) = _
 rw [if_neg h]
theorem hull_met {r : Lab} {k v : Nat} (h : v ∈ firsts r k) : (hullL r 0 v k).1 < (hullL r 0 v k).2 := by
 obtain ⟨i, hi, e⟩ := (mem_firsts r k v).1 h
 rcases hullL_is r 0 v k with ⟨h1, h2⟩ | h2
 ·exact absurd (by rw [Nat.zero_add]; exact e) (h2 i hi)
 ·exact h2.1
theorem clu1_there {r : Lab} {m k : Nat} (h : r k ∈ firsts r k) : (firsts r (k + 1)).map (clu1 r m (k + 1)) = ((firsts r k).map (clu1 r m k)).set ((firsts r k).idxOf (r k)) (((hullL r 0 (r k) k).1, k + 1), (m, 0)) := by
 have e : firsts r (k + 1) = firsts r k := by rw [firsts, if_pos h]
 rw [e, map_set_idx _ (firsts_nodup r k) _ h (clu1 r m k) (clu1 r m (k + 1))]
 ·congr 1
  unfold clu1
  have hm := hull_met h
  show ((if r (0 + k) = r k then _ else _), (m, 0)) = _
  rw [Nat.zero_add, if_pos rfl, if_neg (by omega)]
 ·intro x hx hne
  unfold clu1
  rw [hull_far (by rw [Nat.zero_add]; exact fun e => hne e.symm)]
theorem clu1_new {r : Lab} {m k : Nat} (h : r k ∉ firsts r k) : (firsts r (k + 1)).map (clu1 r m (k + 1)) = (firsts r k).map (clu1 r m k) ++ [((k, k + 1), (m, 0))] := by
 have e : firsts r (k + 1) = firsts r k ++ [r k] := by rw [firsts, if_neg h]
 rw [e, List.map_append]
 congr 1
 ·apply List.map_congr_left
  intro x hx
  unfold clu1
  rw [hull_far (by rw [Nat.zero_add]; exact fun e => h (e ▸ hx))]
 ·unfold clu1
  have h0 : hullL r 0 (r k) k = (0, 0) := by
   rcases hullL_is r 0 (r k) k with ⟨h1, _⟩ | h2
   ·exact h1
   ·exact absurd ((mem_firsts r k _).2 ⟨(hullL r 0 (r k) k).1, by omega, by have := h2.2.2.1; rwa [Nat.zero_add] at this⟩) h
  rw [List.map_singleton]
  show [((if r (0 + k) = r k then _ else _), (m, 0))] = _
  rw [Nat.zero_add, if_pos rfl, h0, if_pos rfl]
theorem clu2_start (r : Lab) (n m : Nat) : (firsts r n).map (clu1 r m n) = (firsts r n).map (clu2 r n m 0) := List.map_congr_left fun v _ => by
 unfold clu1 clu2 out2
 rw [if_pos (by rfl)]
theorem clu2_step {r : Lab} {n m t : Nat} (ht : t < m) (h : r (n + t) ∈ firsts r n) : (firsts r n).map (clu2 r n m (t + 1)) = ((firsts r n).map (clu2 r n m t)).set ((firsts r n).idxOf (r (n + t))) (hullL r 0 (r (n + t)) n, (min (out2 r n m (r (n + t)) t).1 t, t + 1)) := by
 rw [map_set_idx _ (firsts_nodup r n) _ h (clu2 r n m t) (clu2 r n m (t + 1))]
 ·congr 1
  unfold clu2 out2
  have e : hullL r n (r (n + t)) (t + 1) = ((if (hullL r n (r (n + t)) t).2 = 0 then t else (hullL r n (r (n + t)) t).1), t + 1) := by
   show (if r (n + t) = r (n + t) then _ else _) = _
   rw [if_pos rfl]
  rw [e, if_neg (by simp)]
  congr 1
  congr 1
  by_cases hz : (hullL r n (r (n + t)) t).2 = 0
  ·rw [if_pos hz, if_pos hz]; dsimp only; omega
  ·rw [if_neg hz, if_neg hz]
   rcases hullL_is r n (r (n + t)) t with ⟨h1, _⟩ | h2
   ·rw [h1] at hz; exact absurd rfl hz
   ·omega
 ·intro x hx hne
  unfold clu2 out2
  rw [hull_far (fun e => hne e.symm)]
theorem firsts_cut {r : Lab} {n : Nat} (hb : Between (fun x y => r x = r y) 0 n) (k : Nat) (hk : k < n) : r k ∈ firsts r k ↔ ¬ (k = 0 ∨ r k ≠ r (k - 1)) := by
 rw [mem_firsts]
 constructor
 ·rintro ⟨i, hi, e⟩ (h | h)
  ·omega
  ·exact h (e.symm.trans (hb i (k - 1) k (Nat.zero_le _) (by omega) (by omega) hk e))
 ·intro h
  exact ⟨k - 1, by omega, (Decidable.byContradiction fun e => h (.inr (fun e' => e e'.symm)))⟩
theorem cluTo_firsts {r : Lab} {n m : Nat} (hb : Between (fun x y => r x = r y) 0 n) (k : Nat) (hk : k ≤ n) : cluTo n m r k = (firsts r k).map fun v => (hullL r 0 v n, hullL r n v m) := by
 induction k with
 | zero => rfl
 | succ k ih =>
  rw [cluTo_add, ih (by omega), firsts]
  have hc := firsts_cut hb k (by omega)
  by_cases h : k = 0 ∨ r k ≠ r (k - 1)
  ·rw [if_pos h, if_neg (fun h' => hc.1 h' h), List.map_append]; rfl
  ·rw [if_neg h, if_pos (hc.2 h), List.append_nil]
theorem clu2_end {r : Lab} {n m : Nat} (hb : Between (fun x y => r x = r y) 0 n) (ho : ∀ j, j < n → ∃ i, i < m ∧ r (n + i) = r j) : (firsts r n).map (clu2 r n m m) = cluTo n m r n := by
 rw [cluTo_firsts hb n (Nat.le_refl _)]
 apply List.map_congr_left
 intro v hv
 obtain ⟨j, hj, e⟩ := (mem_firsts r n v).1 hv
 obtain ⟨i, hi, e2⟩ := ho j hj
 unfold clu2 out2
 rw [if_neg]
 rcases hullL_is r n v m with ⟨_, h2⟩ | h2
 ·exact absurd (e2.trans e) (h2 i hi)
 ·omega
theorem outs_met {n m : Nat} {l : List Lk} {R : Nat → Nat → Prop} (hR : Closed n m l R) (hw : ∀ x ∈ l, x.a < x.b ∧ x.c < x.d) (hm : ∀ x ∈ l, x.d ≤ m) (hf : firstF l n < n) (j : Nat) (hj : j < n) : ∃ i, i < m ∧ R (n + i) j := by
 have linked : ∀ j, linkedB l j = true → ∃ i, i < m ∧ R (n + i) j := by
  intro j h
  unfold linkedB at h
  obtain ⟨x, hx, h⟩ := List.any_eq_true.1 h
  simp only [Bool.and_eq_true, decide_eq_true_eq] at h
  have := hw x hx; have := hm x hx
  exact ⟨x.c, by omega, hR.eqv.trans _ _ _ (hR.eqv.symm _ _ (hR.both x hx)) (hR.ins x hx j h.1 h.2)⟩
 have hfirst := linked _ (first_linked l n hf)
 have behind : ∀ d, firstF l n + d < n → ∃ i, i < m ∧ R (n + i) (firstF l n + d) := by
  intro d
  induction d with
  | zero => intro _; exact hfirst
  | succ d ih =>
   intro h
   cases e : linkedB l (firstF l n + (d + 1)) with
   | true => exact linked _ e
   | false =>
    obtain ⟨i, hi, h'⟩ := ih (by omega)
    exact ⟨i, hi, hR.eqv.trans _ _ _ h' (hR.stray (firstF l n + (d + 1)) (by omega) h e)⟩
 have ahead : ∀ d, d ≤ firstF l n → ∃ i, i < m ∧ R (n + i) (firstF l n - d) := by
  intro d
  induction d with
  | zero => intro _; exact hfirst
  | succ d ih =>
   intro h
   obtain ⟨i, hi, h'⟩ := ih (by omega)
   have := hR.ahead (firstF l n - (d + 1)) (by omega) hf
   rw [show firstF l n - (d + 1) + 1 = firstF l n - d by omega] at this
   exact ⟨i, hi, hR.eqv.trans _ _ _ h' (hR.eqv.symm _ _ this)⟩
 rcases Nat.lt_or_ge j (firstF l n) with h | h
 ·have := ahead (firstF l n - j) (by omega)
  rwa [show firstF l n - (firstF l n - j) = j by omega] at this
 ·have := behind (j - firstF l n) (by omega)
  rwa [show firstF l n + (j - firstF l n) = j by omega] at this
theorem ins_met {n m : Nat} {l : List Lk} {R : Nat → Nat → Prop} (hR : Closed n m l R) (hb : ∀ x ∈ l, x.a < x.b ∧ x.b ≤ n) (hc : ∀ i, i < m → ∃ x ∈ l, x.c ≤ i ∧ i < x.d) (i : Nat) (hi : i < m) : ∃ j, j < n ∧ R j (n + i) := by
 obtain ⟨x, hx, h1, h2⟩ := hc i hi
 have := hb x hx
 exact ⟨x.a, by omega, hR.eqv.trans _ _ _ (hR.both x hx) (hR.outs x hx i h1 h2)⟩
end Go.Proofs.Ytohhobcipfmkbaa.UFinest
end
section
namespace Go.Proofs.Ytohhobcipfmkbaa.CFin
open Go.RowKit Go.Proofs.YtohhobcipfmkbaaW.PrintWords Go.Proofs.YtohhobcipfmkbaaW.PrintMore Go.Proofs.YtohhobcipfmkbaaW.PrintLast Go.Proofs.Ytohhobcipfmkbaa.U Go.Proofs.Ytohhobcipfmkbaa.PClusterFinest Go.Proofs.Ytohhobcipfmkbaa.UFinest Go.Proofs.Ytohhobcipfmkbaa.UFinEv
theorem ev_some {α : Type} {f : Nat → Option α} {r : α} (h : Ev f r) : ∃ k, f k = some r := by
 obtain ⟨k, h⟩ := h
 exact ⟨k, h k (Nat.le_refl _)⟩
end Go.Proofs.Ytohhobcipfmkbaa.CFin
namespace Go.Proofs.Ytohhobcipfmkbaa.CFin
open Go.RowKit Go.Proofs.YtohhobcipfmkbaaW.PrintWords Go.Proofs.YtohhobcipfmkbaaW.PrintMore Go.Proofs.YtohhobcipfmkbaaW.PrintLast Go.Proofs.Ytohhobcipfmkbaa.U Go.Proofs.Ytohhobcipfmkbaa.PClusterFinest Go.Proofs.Ytohhobcipfmkbaa.UFinest Go.Proofs.Ytohhobcipfmkbaa.UFinEv
def LI (w : World) (base g n cap : Nat) (xs : List Int) : Prop := Kd.R (Kd.int .i64) 3 w base (fun k => k = g) (.slice (some ⟨g, 0, none⟩) n cap) xs
theorem LI.len {w : World} {base g n cap : Nat} {xs : List Int} (h : LI w base g n cap xs) : n = xs.length := (Kd.R_reads' h).1
theorem LI.lt {w : World} {base g n cap : Nat} {xs : List Int} (h : LI w base g n cap xs) : base ≤ g := by
 obtain ⟨_, _, ho, _⟩ := h
 rcases ho.2 with ⟨e, _⟩ | ⟨g', _, _, e, hb, _⟩
 ·cases e
 ·injection e with e1 e2 e3; injection e1 with e1; injection e1 with e1 e4; rw [e1]; exact hb
theorem LI.ltw {w : World} {base g n cap : Nat} {xs : List Int} (h : LI w base g n cap xs) : g < w.heap.size := by
 obtain ⟨_, _, h2, _⟩ := (Kd.R_bound h).1 g rfl
 exact h2
theorem LI.below {w w' : World} {base g n cap : Nat} {xs : List Int} (h : LI w base g n cap xs) (hb : Below w.heap.size w w') : LI w' base g n cap xs := Kd.R_below h hb
theorem LI.of_R {w : World} {base n cap g : Nat} {ok : Nat → Prop} {xs : List Int} (h : Kd.R (Kd.int .i64) 3 w base ok (.slice (some ⟨g, 0, none⟩) n cap) xs) : LI w base g n cap xs := by
 obtain ⟨_, inner, ho, hr⟩ := h
 refine ⟨fun k hk => by simpa [Value.ownBlock] using hk.symm, inner, ho, hr.imp_ (fun _ _ hp => hp)⟩
theorem LI.put {w : World} {base g n cap : Nat} {xs : List Int} (h : LI w base g n cap xs) (i : Nat) (x : Int) : LI (w.setCell ⟨g, i, none⟩ (.int .i64 x)) base g n cap (xs.set i x) := by
 have := (Kd.R_putg h (i : Int) x).1
 rwa [Int.toNat_natCast] at this
theorem LI.other {w : World} {base g n cap : Nat} {xs : List Int} (h : LI w base g n cap xs) {g' : Nat} (hg : g ≠ g') (i : Nat) (v : Value) : LI (w.setCell ⟨g', i, none⟩ v) base g n cap xs :=
 Kd.R_grown h (grown_set w g' i v) (fun k hk e => hg (by rw [← hk]; exact Option.some.inj e))
theorem LI.cell {w : World} {base g n cap : Nat} {xs : List Int} (h : LI w base g n cap xs) (i : Nat) (hi : i < n) : w.cell? ⟨g, i, none⟩ = some (.int .i64 (xs.getD i 0)) ∧ w.frozen? ⟨g, i, none⟩ = false := by
 have := Kd.R_celln (0 : Int) h (i : Int) (by omega) (by omega)
 rw [Int.toNat_natCast] at this
 refine ⟨this.1.trans ?_, this.2⟩
 unfold rdOf
 rw [Int.toNat_natCast]
def Upto (b k : Nat) (xs : List Int) : Prop := ∀ i, i < k → xs.getD i 0 = ((b + i : Nat) : Int)
theorem Upto.set {b k : Nat} {xs : List Int} (h : Upto b k xs) (hk : k < xs.length) : Upto b (k + 1) (xs.set k ((b + k : Nat) : Int)) := by
 intro i hi
 by_cases e : i = k
 ·subst e
  rw [List.getD_eq_getElem?_getD, List.getElem?_set_self hk]
  rfl
 ·rw [List.getD_eq_getElem?_getD, List.getElem?_set_ne (fun h => e h.symm), ← List.getD_eq_getElem?_getD]
  exact h i (by omega)
def LB (w : World) (base g n cap : Nat) (xs : List Bool) : Prop := Kd.R Kd.bool 4 w base (fun k => k = g) (.slice (some ⟨g, 0, none⟩) n cap) xs
theorem LB.below {w w' : World} {base g n cap : Nat} {xs : List Bool} (h : LB w base g n cap xs) (hb : Below w.heap.size w w') : LB w' base g n cap xs := Kd.R_below h hb
theorem LB.of_R {w : World} {base n cap g : Nat} {ok : Nat → Prop} {xs : List Bool} (h : Kd.R Kd.bool 4 w base ok (.slice (some ⟨g, 0, none⟩) n cap) xs) : LB w base g n cap xs := by
 obtain ⟨_, inner, ho, hr⟩ := h
 refine ⟨fun k hk => by simpa [Value.ownBlock] using hk.symm, inner, ho, hr.imp_ (fun _ _ hp => hp)⟩
theorem LB.ltw {w : World} {base g n cap : Nat} {xs : List Bool} (h : LB w base g n cap xs) : g < w.heap.size := by
 obtain ⟨_, _, h2, _⟩ := (Kd.R_bound h).1 g rfl
 exact h2
theorem LB.cell {w : World} {base g n cap : Nat} {xs : List Bool} (h : LB w base g n cap xs) (i : Nat) (hi : i < n) : w.cell? ⟨g, i, none⟩ = some (.bool (xs.getD i false)) := by
 have := (Kd.R_celln false h (i : Int) (by omega) (by omega)).1
 rw [Int.toNat_natCast] at this
 refine this.trans ?_
 unfold rdOf
 rw [Int.toNat_natCast]
abbrev AL (w : World) (base g1 g2 gh : Nat) (v : Value) (al : List S45) : Prop := Kd.R k45 45 w base (fun k => (k ≠ g1 ∧ k ≠ g2) ∧ k ≠ gh) v al
def aheadS (L : List Lk) (n : Nat) : List S45 := if 0 < firstF L n ∧ firstF L n < n then [⟨⟨0, (firstF L n : Int) + 1⟩, ⟨0, 0⟩⟩] else []
def toS (x : Clu) : S45 := ⟨⟨(x.1.1 : Nat), (x.1.2 : Nat)⟩, ⟨(x.2.1 : Nat), (x.2.2 : Nat)⟩⟩
def cluS (n m : Nat) (L : Lab) (k : Nat) : List S45 := (cluTo n m L k).map toS
theorem cluS_yes {n m : Nat} {L : Lab} {k : Nat} (h : k = 0 ∨ L k ≠ L (k - 1)) : cluS n m L (k + 1) = cluS n m L k ++ [toS (hullL L 0 (L k) n, hullL L n (L k) m)] := by
 unfold cluS
 rw [cluTo_add, if_pos h, List.map_append]
 rfl
theorem cluS_no {n m : Nat} {L : Lab} {k : Nat} (h : ¬ (k = 0 ∨ L k ≠ L (k - 1))) : cluS n m L (k + 1) = cluS n m L k := by
 unfold cluS
 rw [cluTo_add, if_neg h, List.append_nil]
theorem cluS_len (n m : Nat) (L : Lab) (k : Nat) : (cluS n m L k).length ≤ k := by
 induction k with
 | zero => exact Nat.le_refl _
 | succ k ih =>
  by_cases h : k = 0 ∨ L k ≠ L (k - 1)
  ·rw [cluS_yes h, List.length_append]; simp; exact ih
  ·rw [cluS_no h]; omega
end Go.Proofs.Ytohhobcipfmkbaa.CFin
end
section
namespace Go.Proofs.Ytohhobcipfmkbaa.Cel
open Go.RowKit Go.Proofs.YtohhobcipfmkbaaW.PrintWords Go.Proofs.YtohhobcipfmkbaaW.PrintMore Go.Proofs.YtohhobcipfmkbaaW.PrintLast Go.Proofs.Ytohhobcipfmkbaa.U Go.Proofs.Ytohhobcipfmkbaa.PClusterFinest
structure Eff (w W : World) (S : Nat → Prop) : Prop where
 os : W.os = w.os
 tape : W.tape = w.tape
 output : W.output = w.output
 kept : Kept w W S
variable {w W W2 : World} {S S2 D D2 : Nat → Prop}
theorem Eff.refl (w : World) (S : Nat → Prop) : Eff w w S := ⟨rfl, rfl, rfl, Kept.refl w S⟩
theorem Eff.of_below (h : Below w.heap.size w W) (S : Nat → Prop) : Eff w W S := ⟨h.os, h.tape, h.output, Kept.of_below h S⟩
theorem Eff.then_ (h : Eff w W S) (k : Eff W W2 S2) (hs : ∀ k, S2 k → S k ∨ w.heap.size ≤ k) : Eff w W2 S := ⟨k.os.trans h.os, k.tape.trans h.tape, k.output.trans h.output, h.kept.then_ k.kept hs⟩
theorem Eff.below_ (h : Eff w W S) (k : Below W.heap.size W W2) : Eff w W2 S := h.then_ (Eff.of_below k (fun _ => False)) (fun _ h => h.elim)
theorem Eff.mono (h : Eff w W S) (hs : ∀ k, S k → S2 k) : Eff w W S2 := ⟨h.os, h.tape, h.output, h.kept.mono hs⟩
theorem Eff.size (h : Eff w W S) : w.heap.size ≤ W.heap.size := h.kept.1
theorem Eff.below {B : Nat} (h : Eff w W S) (hB : B ≤ w.heap.size) (hS : ∀ k, S k → B ≤ k) : Below B w W := ⟨h.os, h.tape, h.output, h.kept.1, fun k hk => h.kept.2 k (by omega) (fun hs => by have := hS k hs; omega)⟩
theorem Eff.of_grown {row : Option Nat} (hg : w.grownBy W row) (hr : ∀ k, row = some k → S k) : Eff w W S := ⟨hg.os, hg.tape, hg.output, Kept.of_grown hg (Kept.refl w S) (fun k hk => .inl (hr k hk))⟩
theorem Eff.drew (h : Eff w W S) : Eff w W.drew S := h.below_ (below_drew (Below.refl _ _))
theorem Eff.drewN (h : Eff w W S) (n : Nat) : Eff w (W.drewN n) S := h.below_ (pw_below_drewN (Below.refl _ _) n)
theorem add_block (a : Addr) (n : Nat) : (a.add n).block = a.block := by
 unfold Addr.add
 first | rfl | (split <;> rfl)
def SLD (w : World) (D : Nat → Prop) (v : Value) (x : List Int) : Prop := SL w v x ∧ ∀ ad n c, v = .slice (some ad) n c → 0 < n → D ad.block
theorem SL.kept {v : Value} {x : List Int} (h : SLD w D v x) (hk : Kept w W S) (hne : ∀ k, D k → ¬ S k) : SL W v x := by
 obtain ⟨⟨A, c, rfl, hc, h1, h2, h3⟩, hd⟩ := h
 refine ⟨A, c, rfl, hc, h1, h2, fun hn => ?_⟩
 obtain ⟨ad, rfl, hcell⟩ := h3 hn
 refine ⟨ad, rfl, fun j p hj => ?_⟩
 obtain ⟨cs, hl, hK, hcc⟩ := hcell j p hj
 exact ⟨cs, hl, hK, fun k u hu => cell_kept (hcc k u hu) hk (by rw [add_block]; exact hne _ (hd ad _ _ rfl hn))⟩
theorem SLD.kept {v : Value} {x : List Int} (h : SLD w D v x) (hk : Kept w W S) (hne : ∀ k, D k → ¬ S k) : SLD W D v x := ⟨SL.kept h hk hne, h.2⟩
theorem SLD.mono {v : Value} {x : List Int} (h : SLD w D v x) (hs : ∀ k, D k → D2 k) : SLD w D2 v x := ⟨h.1, fun ad n c e hn => hs _ (h.2 ad n c e hn)⟩
theorem SLD.bound {v : Value} {x : List Int} (h : SLD w D v x) : SLD w (fun k => D k ∧ k < w.heap.size) v x := by
 refine ⟨h.1, fun ad n c e hn => ⟨h.2 ad n c e hn, ?_⟩⟩
 obtain ⟨A, c', e', hc, h1, h2, h3⟩ := h.1
 subst e
 injection e' with e1 e2 e3
 obtain ⟨ad', e4, hcell⟩ := h3 (by omega)
 subst e1
 obtain rfl := Option.some.inj e4
 obtain ⟨cs, hl, hK, hcc⟩ := hcell 0 (x[0]'(by omega)) (List.getElem?_eq_getElem (by omega))
 have hk' : cs = [.int .i64 (x[0]'(by omega))] := hK
 have := World.block_lt_of_cell? _ _ (hcc 0 (.int .i64 (x[0]'(by omega))) (by rw [hk']; rfl))
 rwa [add_block] at this
theorem SLD.any {v : Value} {x : List Int} (h : SL w v x) : SLD w (fun k => k < w.heap.size) v x := ⟨h, fun ad n c e hn => (SLD.bound (D := fun _ => True) ⟨h, fun _ _ _ _ _ => trivial⟩).2 ad n c e hn |>.2⟩
theorem SLD.nil (w : World) (D : Nat → Prop) : SLD w D (.slice none 0 0) [] := ⟨SLk.nil w, fun ad n c e hn => by injection e with e1; cases e1⟩
theorem SLD.of_R {base : Nat} {v : Value} {x : List Int} (h : Kd.R (Kd.int .i64) 3 w base D v x) : SLD w D v x := by
 refine ⟨SLk.of_R h, fun ad n c e hn => ?_⟩
 subst e
 obtain ⟨hn', _, _⟩ := Kd.R_reads' h
 obtain ⟨g, cap, e, _⟩ := Kd.R_form h (by omega)
 injection e with e1 e2 e3
 injection e1 with e1
 subst e1
 exact h.1 g (by simp [Value.ownBlock])
theorem SLD.set_slice {v : Value} {x : List Int} (h : SLD w D v x) {g i : Nat} {hd : Hd} (hc : w.cell? ⟨g, i, none⟩ = some (encH hd)) (u : Value) : SLD (w.setCell ⟨g, i, none⟩ u) D v x := ⟨SL.set_slice h.1 hc u, h.2⟩
def RowAt (w : World) (D : Nat → Prop) (v : Value) (L : List (List Int)) : Prop :=
 ∃ hs : List Hd, Kd.R KH 31 w 0 D v hs ∧ hs.length = L.length ∧ ∀ (i : Nat) (x : List Int), L[i]? = some x → ∃ h : Hd, hs[i]? = some h ∧ SLD w D (encH h) x
theorem RowAt.kept {v : Value} {L : List (List Int)} (h : RowAt w D v L) (hk : Kept w W S) (hne : ∀ k, D k → ¬ S k) : RowAt W D v L := by
 obtain ⟨hs, h1, h2, h3⟩ := h
 exact ⟨hs, Kd.R_kept h1 hk hne, h2, fun i x hx => let ⟨hd, a, b⟩ := h3 i x hx; ⟨hd, a, b.kept hk hne⟩⟩
theorem RowAt.mono {v : Value} {L : List (List Int)} (h : RowAt w D v L) (hs : ∀ k, D k → D2 k) : RowAt w D2 v L := by
 obtain ⟨hl, h1, h2, h3⟩ := h
 exact ⟨hl, Kd.R_mono h1 hs, h2, fun i x hx => let ⟨hd, a, b⟩ := h3 i x hx; ⟨hd, a, b.mono hs⟩⟩
theorem RowAt.bound {v : Value} {L : List (List Int)} (h : RowAt w D v L) : RowAt w (fun k => D k ∧ k < w.heap.size) v L := by
 obtain ⟨hl, h1, h2, h3⟩ := h
 exact ⟨hl, Kd.R_mono (Kd.R_bound h1) (fun k hk => ⟨hk.1, hk.2.2.1⟩), h2, fun i x hx => let ⟨hd, a, b⟩ := h3 i x hx; ⟨hd, a, b.bound⟩⟩
theorem RowAt.slice {v : Value} {L : List (List Int)} (h : RowAt w D v L) : ∃ A c, v = .slice A L.length c := by
 obtain ⟨hs, h1, h2, h3⟩ := h
 obtain ⟨A, c, rfl⟩ := Kd.R_slice h1
 exact ⟨A, c, by rw [h2]⟩
theorem RowAt.form {v : Value} {L : List (List Int)} (h : RowAt w D v L) (hn : 0 < L.length) : ∃ g cap cells, v = .slice (some ⟨g, 0, none⟩) L.length cap ∧ D g ∧ g < w.heap.size ∧ w.heap[g]? = some (.cells cells 31 (0, 0)) := by
 obtain ⟨hs, h1, h2, h3⟩ := h
 obtain ⟨g, cap, e, _, hg, cells, hc⟩ := Kd.R_form h1 (by omega)
 refine ⟨g, cap, cells, by rw [e, h2], ?_, hg, hc⟩
 subst e
 exact h1.1 g (by simp [Value.ownBlock])
theorem RowAt.cell {g n cap : Nat} {L : List (List Int)} (h : RowAt w D (.slice (some ⟨g, 0, none⟩) n cap) L) (i : Nat) (hi : i < L.length) : ∃ hd : Hd, w.cell? ⟨g, i, none⟩ = some (encH hd) ∧ w.frozen? ⟨g, i, none⟩ = false ∧ SLD w D (encH hd) L[i] := by
 obtain ⟨hs, h1, h2, h3⟩ := h
 obtain ⟨hd, a, b⟩ := h3 i L[i] (List.getElem?_eq_getElem hi)
 have hn := (Kd.R_reads' h1).1
 have hc := Kd.R_celln ((none, 0, 0) : Hd) h1 (i : Int) (by omega) (by omega)
 rw [Int.toNat_natCast] at hc
 have e : rdOf ((none, 0, 0) : Hd) hs (i : Int) = hd := by
  unfold rdOf
  rw [Int.toNat_natCast, List.getD_eq_getElem?_getD, a]
  rfl
 rw [e] at hc
 exact ⟨hd, hc.1, hc.2, b⟩
theorem RowAt.put {g n cap : Nat} {L : List (List Int)} (h : RowAt w D (.slice (some ⟨g, 0, none⟩) n cap) L) (i : Nat) (hi : i < L.length) {v' : Value} {x : List Int} (hx : SLD w D v' x) :
 RowAt (w.setCell ⟨g, i, none⟩ v') D (.slice (some ⟨g, 0, none⟩) n cap) (L.set i x) := by
 obtain ⟨hd0, hc, _, _⟩ := h.cell i hi
 obtain ⟨hs, h1, h2, h3⟩ := h
 obtain ⟨hd, rfl⟩ := SL.header hx.1
 have hp := Kd.R_putg h1 (i : Int) hd
 rw [Int.toNat_natCast] at hp
 refine ⟨hs.set i hd, hp.1, by simp [h2], fun j y hy => ?_⟩
 by_cases hji : j = i
 ·subst hji
  rw [List.getElem?_set_self hi] at hy
  obtain rfl := Option.some.inj hy
  exact ⟨hd, List.getElem?_set_self (by omega), SLD.set_slice hx hc _⟩
 ·rw [List.getElem?_set_ne (Ne.symm hji)] at hy
  obtain ⟨hd', a, b⟩ := h3 j y hy
  exact ⟨hd', by rw [List.getElem?_set_ne (Ne.symm hji)]; exact a, SLD.set_slice b hc _⟩
theorem RowAt.nils {base n : Nat} {v : Value} (h : Kd.R KH 31 w base D v (List.replicate n ((none, 0, 0) : Hd))) : RowAt w D v (List.replicate n []) := by
 refine ⟨_, Kd.R_lower h (Nat.zero_le _), by simp, fun i x hx => ?_⟩
 rw [List.getElem?_replicate] at hx
 split at hx
 ·rename_i hi
  obtain rfl := Option.some.inj hx
  exact ⟨(none, 0, 0), by rw [List.getElem?_replicate, if_pos hi], SLD.nil w D⟩
 ·cases hx
theorem RowAt.reads {v : Value} {L : List (List Int)} (h : RowAt w D v L) (t : Nat) : SLk (Kd.slice t (Kd.int .i64)) w v L := by
 obtain ⟨hs, h1, h2, h3⟩ := h
 obtain ⟨A, c, rfl, hc, hC⟩ := Kd.R_reads h1
 rw [h2] at hC hc ⊢
 refine ⟨A, c, rfl, hc, rfl, hC.2.1, fun hn => ?_⟩
 obtain ⟨ad, rfl, hcell⟩ := hC.2.2 hn
 refine ⟨ad, rfl, fun j p hj => ?_⟩
 obtain ⟨hd, a, b⟩ := h3 j p hj
 obtain ⟨cs, _, hk, hcc⟩ := hcell j hd a
 obtain ⟨A', c', e', hl, hC'⟩ := b.1
 refine ⟨[encH hd], rfl, ⟨A', c', by rw [e'], hl, hC'⟩, fun k u hu => ?_⟩
 have hk' : cs = [encH hd] := hk
 subst hk'
 exact hcc k u hu
theorem RowAt.other {v : Value} {L : List (List Int)} (h : RowAt w D v L) {g t j : Nat} {cells : Array Value} (hb : w.heap[g]? = some (.cells cells t (0, 0))) (ht : 31 ≠ t) (hc : ∃ hd : Hd, w.cell? ⟨g, j, none⟩ = some (encH hd)) (u : Value) : RowAt (w.setCell ⟨g, j, none⟩ u) D v L := by
 obtain ⟨hs, h1, h2, h3⟩ := h
 obtain ⟨hd, hc⟩ := hc
 refine ⟨hs, Kd.R_set h1 hb (fun q hq => ?_) j u, h2, fun i x hx => let ⟨hd', a, b⟩ := h3 i x hx; ⟨hd', a, b.set_slice hc u⟩⟩
 have hE : (KH : Kd Hd).E = [] := rfl
 rw [hE, List.mem_singleton] at hq
 rw [hq]; exact ht
def CellsAt (T : Nat) (w : World) (D : Nat → Prop) (b : Nat) (L : List (List Int)) (J : List S33) : Prop :=
 ∃ (Dr Dt : Nat → Prop) (vr vt : Value), (∀ k, Dr k → D k ∧ k ≠ b) ∧ (∀ k, Dt k → D k ∧ k ≠ b ∧ ¬ Dr k) ∧ D b ∧ w.heap[b]? = some (.cells #[vr, vt] T (0, 0)) ∧ RowAt w Dr vr L ∧ Kd.R k33 33 w 0 Dt vt J
theorem CellsAt.kept {T b : Nat} {L : List (List Int)} {J : List S33} (h : CellsAt T w D b L J) (hk : Kept w W S) (hne : ∀ k, D k → ¬ S k) : CellsAt T W D b L J := by
 obtain ⟨Dr, Dt, vr, vt, hr, ht, h0, h1, h2, h3⟩ := h
 exact ⟨Dr, Dt, vr, vt, hr, ht, h0, blk_kept h1 hk (hne b h0), h2.kept hk (fun k hk => hne k (hr k hk).1), Kd.R_kept h3 hk (fun k hk => hne k (ht k hk).1)⟩
theorem CellsAt.below {T b : Nat} {L : List (List Int)} {J : List S33} (h : CellsAt T w D b L J) (hb : Below w.heap.size w W) : CellsAt T W D b L J := h.kept (Kept.of_below hb (fun _ => False)) (fun _ _ h => h)
theorem CellsAt.mono {T b : Nat} {L : List (List Int)} {J : List S33} (h : CellsAt T w D b L J) (hs : ∀ k, D k → D2 k) : CellsAt T w D2 b L J := by
 obtain ⟨Dr, Dt, vr, vt, hr, ht, h0, h1, h2, h3⟩ := h
 exact ⟨Dr, Dt, vr, vt, fun k hk => ⟨hs k (hr k hk).1, (hr k hk).2⟩, fun k hk => ⟨hs k (ht k hk).1, (ht k hk).2⟩, hs _ h0, h1, h2, h3⟩
theorem CellsAt.bound {T b : Nat} {L : List (List Int)} {J : List S33} (h : CellsAt T w D b L J) : CellsAt T w (fun k => D k ∧ k < w.heap.size) b L J := by
 obtain ⟨Dr, Dt, vr, vt, hr, ht, h0, h1, h2, h3⟩ := h
 exact ⟨fun k => Dr k ∧ k < w.heap.size, fun k => Dt k ∧ k < w.heap.size, vr, vt, fun k hk => ⟨⟨(hr k hk.1).1, hk.2⟩, (hr k hk.1).2⟩, fun k hk => ⟨⟨(ht k hk.1).1, hk.2⟩, (ht k hk.1).2.1, fun hr' => (ht k hk.1).2.2 hr'.1⟩, ⟨h0, blk_lt h1⟩, h1, h2.bound, Kd.R_mono (Kd.R_bound h3) (fun k hk => ⟨hk.1, hk.2.2.1⟩)⟩
structure Parts (T : Nat) (w : World) (D Dr Dt : Nat → Prop) (b : Nat) (A : Option Addr) (c : Nat) (vt : Value) (L : List (List Int)) (J : List S33) : Prop where
 hr : ∀ k, Dr k → D k ∧ k ≠ b ∧ k < w.heap.size
 ht : ∀ k, Dt k → D k ∧ k ≠ b ∧ ¬ Dr k ∧ k < w.heap.size
 h0 : D b
 h1 : w.heap[b]? = some (.cells #[.slice A L.length c, vt] T (0, 0))
 h2 : RowAt w Dr (.slice A L.length c) L
 h3 : Kd.R k33 33 w 0 Dt vt J
theorem CellsAt.open_ {T b : Nat} {L : List (List Int)} {J : List S33} (h : CellsAt T w D b L J) : ∃ Dr Dt A c vt, Parts T w D Dr Dt b A c vt L J := by
 obtain ⟨Dr, Dt, vr, vt, hr, ht, h0, h1, h2, h3⟩ := h
 obtain ⟨A, c, rfl⟩ := h2.slice
 exact ⟨fun k => Dr k ∧ k < w.heap.size, fun k => Dt k ∧ k < w.heap.size, A, c, vt, fun k hk => ⟨(hr k hk.1).1, (hr k hk.1).2, hk.2⟩, fun k hk => ⟨(ht k hk.1).1, (ht k hk.1).2.1, fun hr' => (ht k hk.1).2.2 hr'.1, hk.2⟩, h0, h1, h2.bound, Kd.R_mono (Kd.R_bound h3) (fun k hk => ⟨hk.1, hk.2.2.1⟩)⟩
theorem Parts.below {T b c : Nat} {Dr Dt : Nat → Prop} {A : Option Addr} {vt : Value} {L : List (List Int)} {J : List S33} (h : Parts T w D Dr Dt b A c vt L J) (hb : Below w.heap.size w W) : Parts T W D Dr Dt b A c vt L J :=
 ⟨fun k hk => ⟨(h.hr k hk).1, (h.hr k hk).2.1, Nat.lt_of_lt_of_le (h.hr k hk).2.2 hb.size⟩, fun k hk => ⟨(h.ht k hk).1, (h.ht k hk).2.1, (h.ht k hk).2.2.1, Nat.lt_of_lt_of_le (h.ht k hk).2.2.2 hb.size⟩, h.h0, (hb.block _ (blk_lt h.h1)).trans h.h1, h.h2.kept (S := fun _ => False) (Kept.of_below hb _) (fun _ _ h => h), Kd.R_below h.h3 hb⟩
theorem Parts.put {T b g cap : Nat} {Dr Dt : Nat → Prop} {vt : Value} {L : List (List Int)} {J : List S33} (h : Parts T w D Dr Dt b (some ⟨g, 0, none⟩) cap vt L J) (hw : Below w.heap.size w W) (i : Nat) (hi : i < L.length) {v' : Value} {x : List Int} (hx : SLD W (fun k => w.heap.size ≤ k) v' x) :
 CellsAt T (W.setCell ⟨g, i, none⟩ v') (fun q => D q ∨ w.heap.size ≤ q) b (L.set i x) J ∧ D g ∧ Eff w (W.setCell ⟨g, i, none⟩ v') D := by
 obtain ⟨g', cap', cells, e, hg, hlt, hblk⟩ := h.h2.form (by omega)
 injection e with e1 e2 e3
 injection e1 with e1
 injection e1 with e1 e4 e5
 subst e1
 have h' := h.below hw
 have hgr := h.hr g hg
 have hb0 : b < w.heap.size := blk_lt h.h1
 refine ⟨⟨fun k => Dr k ∨ w.heap.size ≤ k, Dt, _, vt, fun k hk => ?_, fun k hk => ?_, .inl h.h0, ?_, (h'.h2.mono (fun k hk => .inl hk)).put i hi (hx.mono (fun k hk => .inr hk)), ?_⟩, hgr.1, ?_⟩
 ·rcases hk with hk | hk
  ·exact ⟨.inl (h.hr k hk).1, (h.hr k hk).2.1⟩
  ·exact ⟨.inr hk, by omega⟩
 ·have := h.ht k hk
  exact ⟨.inl this.1, this.2.1, fun hc => hc.elim this.2.2.1 (fun hc => by omega)⟩
 ·exact ((grown_set W g i v').block b (blk_lt h'.h1) (fun e => hgr.2.1 (Option.some.inj e).symm)).trans h'.h1
 ·exact Kd.R_grown h'.h3 (grown_set W g i v') (fun k hk e => by obtain rfl := Option.some.inj e; exact (h.ht k hk).2.2.1 hg)
 ·exact (Eff.of_below hw D).then_ (Eff.of_grown (S := fun q => q = g) (grown_set W g i v') (fun q e => (Option.some.inj e).symm)) (fun q e => by rw [e]; exact .inl hgr.1)
end Go.Proofs.Ytohhobcipfmkbaa.Cel
end
section
namespace Go.Proofs.Ytohhobcipfmkbaa.Cel
open Go.RowKit Go.Proofs.YtohhobcipfmkbaaW.PrintWords Go.Proofs.YtohhobcipfmkbaaW.PrintMore Go.Proofs.YtohhobcipfmkbaaW.PrintLast Go.Proofs.Ytohhobcipfmkbaa.U Go.Proofs.Ytohhobcipfmkbaa.PClusterFinest
open Go.Shelf
shelf_lay Lays2.n15 Nm2 15 at Try as lc15
abbrev V (xs : List Int) : List Value := xs.map (Value.int .i64)
theorem spot_none {w : World} {a : Addr} {v : Value} (h : w.cell? a = some v) : a.spot = none := by
 unfold World.cell? at h
 split at h
 ·by_cases hs : a.spot.isSome
  ·rw [if_pos hs] at h; cases h
  ·simpa using hs
 ·cases h
theorem SL.cells {w : World} {A : Option Addr} {c : Nat} {xs : List Int} (h : SL w (.slice A xs.length c) xs) (h0 : 0 < xs.length) : ∃ b off, A = some ⟨b, off, none⟩ ∧ ∀ j, j < xs.length → w.cell? ⟨b, off + j, none⟩ = some (.int .i64 (xs.getD j 0)) := by
 obtain ⟨A', c', e, hl, hC⟩ := h
 injection e with e1 e2 e3
 subst e1
 obtain ⟨ad, rfl, h1⟩ := Kd.at_int hC 0 (by omega) (by omega)
 have hs := spot_none h1
 obtain ⟨b, off, sp⟩ := ad
 simp [Addr.add] at hs
 subst hs
 refine ⟨b, off, rfl, fun j hj => ?_⟩
 obtain ⟨ad, e, h2⟩ := Kd.at_int hC (j : Int) (by omega) (by omega)
 cases e
 rw [Int.toNat_natCast, rd_nat, Addr.add_lit] at h2
 exact h2
theorem reps_V (w : World) (base : Nat) (ok : Nat → Prop) (xs : List Int) : Reps ((Kd.int .i64).M w base ok) 1 xs (V xs) := by
 refine ⟨by simp, fun j p hj => ?_⟩
 show (V xs |>.drop (j * 1)).take 1 = [Value.int .i64 p]
 obtain ⟨hl, rfl⟩ := List.getElem?_eq_some_iff.1 hj
 rw [Nat.mul_one, List.drop_eq_getElem_cons (by simpa using hl)]
 simp
theorem clone_c {v : Value} {xs : List Int} {w : World} (h : SL w v xs) (hm : xs.length ≤ 1000000) : Calls Try.prog 42 #[v] w fun e w' => ∃ u, e = .returned u ∧ Kd.R (Kd.int .i64) 3 w' w.heap.size (fun _ => True) u xs ∧ Below w.heap.size w w' := by
 obtain ⟨A, c, rfl, hc, hC⟩ := h
 by_cases h0 : 0 < xs.length
 ·obtain ⟨b, off, rfl, hcell⟩ := SL.cells ⟨A, c, rfl, hc, hC⟩ h0
  refine (Any.slices_Clone_int lc15 b off xs.length c xs w (Nat.le_refl _) (by omega) hcell).mono ?_
  rintro e w' ⟨u, rfl, hown, _, hb⟩
  rw [List.take_length] at hown
  exact ⟨u, rfl, ⟨fun _ _ => trivial, V xs, hown, reps_V _ _ _ _⟩, hb⟩
 ·have e : xs = [] := List.eq_nil_of_length_eq_zero (by omega)
  subst e
  cases A with
  | none => exact (Any.slices_Clone_int_nil lc15 0 c w).mono fun e w' ⟨he, hw⟩ => ⟨_, he, Kd.R_nil _ _ _ _ _, by rw [hw]; exact Below.refl _ _⟩
  | some a =>
   refine (Any.slices_Clone_int_zero lc15 a c w).mono ?_
   rintro e w' ⟨u, rfl, hown, _, hb⟩
   exact ⟨u, rfl, ⟨fun _ _ => trivial, [], hown, Reps.none _ _⟩, hb⟩
set_option maxRecDepth 100000 in
set_option maxHeartbeats 4000000 in
theorem grow_c (n : Nat) (hn : n ≤ 10000000) {w : World} : Calls Try.prog 77 #[.slice none 0 0, .int .i64 n] w fun e w' => ∃ u, e = .returned u ∧ Kd.R (Kd.int .i64) 3 w' w.heap.size (fun _ => True) u [] ∧ Below w.heap.size w w' := by
 by_cases h0 : n = 0
 ·subst h0
  go_enter Try.func77, Try.ntmps77
  go_wp2
  go_ret
  exact ⟨_, rfl, Kd.R_nil _ _ _ _ _, Below.refl _ _⟩
 ·have hI : (0 : Int) < (n : Int) := by omega
  have hI2 : ¬ (n : Int) < 0 := by omega
  have e1 : IntKind.i64.wrap ((n : Int) - IntKind.i64.wrap (0 - 0)) = (n : Int) := by
   rw [show IntKind.i64.wrap ((0 : Int) - 0) = 0 by decide, IntWalk.i64_in _ (by omega)]; omega
  have HN : Aside0 (n ≤ 10000000) := ⟨hn⟩
  go_enter Try.func77, Try.ntmps77
  go_wp2_with ((with_reducible refine gate_builtin (b := .append) (xs := #[.tmp 20, .tmp 21]) rfl ?_); at_builtin; refine Kd.R_append_zeros (Kd.int .i64) (w0 := w) w.heap.size rfl (.tmp 20) (.tmp 21) 31 3 3 (.int .i64 0) 8 rfl Try.underlying31 Try.underlying3 info3 rfl (by decide) (by omega) (.slice none 0 0) [] 0 (kx := .i64) (n : Int) (fun _ => True) (by first | (go_simp; done) | (go_simp; rfl)) (by first | (go_simp; done) | (go_simp; rfl)) rfl (fun _ _ => trivial) (Kd.R_nil _ _ _ _ _) (by omega) (Below.refl _ _) (Nat.le_refl _) (by have := HN.out; simp only [List.length_nil, Int.toNat_natCast]; omega) ?_; intro v1 w1 hv hb hg hat; obtain ⟨A1, c1, e1⟩ := Kd.R_slice hv; subst e1; have HV := Aside0.mk (Kd.R_take hv (Nat.zero_le _)); have HB := Aside0.mk hb; have HC1 := Aside0.mk (Kd.R_reads' hv).2.1; have hc1 : 0 ≤ (c1 : Int) := (by omega); clear hv hb hg hat)
  go_ret
  exact ⟨_, rfl, HV.out, HB.out⟩
theorem flat_take {L : List (List Int)} {k : Nat} (h : k < L.length) : (L.take (k + 1)).flatten = (L.take k).flatten ++ L[k] := by
 rw [List.take_succ_eq_append_getElem h, List.flatten_append]; simp
theorem flat_le (L : List (List Int)) (k : Nat) : (L.take k).flatten.length ≤ L.flatten.length := by
 conv => rhs; rw [← List.take_append_drop k L, List.flatten_append, List.length_append]
 omega
set_option maxRecDepth 100000 in
set_option maxHeartbeats 4000000 in
theorem concat_c {w : World} {v : Value} {L : List (List Int)} (h : SLk (Kd.slice 3 (Kd.int .i64)) w v L) (hl : L.length ≤ 100000000) (hf : L.flatten.length ≤ 10000000) :
 Calls Try.prog 47 #[v] w fun e w' => ∃ u, e = .returned u ∧ Kd.R (Kd.int .i64) 3 w' w.heap.size (fun _ => True) u L.flatten ∧ Below w.heap.size w w' := by
 obtain ⟨A, c, rfl, hc, hC⟩ := h
 have HC := Aside0.mk hC
 have HL := Aside0.mk hl
 have HF := Aside0.mk hf
 clear hc hC hl hf
 go_enter Try.func47, Try.ntmps47
 go_wp2
 go_loopw [3, 11] (fun v3 v wr => ∃ k : Nat, v = .int .i64 (k : Int) ∧ k ≤ L.length ∧ v3 = .int .i64 ((L.take k).flatten.length : Nat) ∧ Aside0 (Below w.heap.size w wr)) (fun _ v _ => L.length - (intOf v).toNat)
 case atStart => exact ⟨0, rfl, Nat.zero_le _, rfl, ⟨Below.refl _ _⟩⟩
 case round =>
  obtain ⟨k, rfl, hk, rfl, HB⟩ := hrel
  by_cases hlt : k < L.length
  ·obtain ⟨x, hx⟩ : ∃ x, x = L[k] := ⟨_, rfl⟩
   obtain ⟨ad, cs, ead, _, hK, hcell⟩ := Kd.C_get (Kd.C_below HC.out HB.out) [] (k : Int) (by omega) (by omega)
   rw [Int.toNat_natCast, show L.getD k [] = x by rw [hx, List.getD_eq_getElem?_getD, List.getElem?_eq_getElem hlt]; rfl] at hK
   obtain ⟨A', c', rfl, hc', hC'⟩ := hK
   have c0 := hcell 0 _ rfl
   rw [Int.toNat_natCast, show (Kd.slice 3 (Kd.int .i64)).sz = 1 from rfl, Nat.add_zero, Nat.mul_one] at c0
   have HNX : Aside0 ((L.take (k + 1)).flatten.length = (L.take k).flatten.length + x.length) := ⟨by rw [flat_take hlt, List.length_append, hx]⟩
   have HLE : Aside0 ((L.take (k + 1)).flatten.length ≤ 10000000) := ⟨Nat.le_trans (flat_le L (k + 1)) HF.out⟩
   obtain ⟨s, hs⟩ : ∃ s, s = (L.take k).flatten.length := ⟨_, rfl⟩
   rw [← hs] at HNX ⊢
   have hsl : s + x.length ≤ 10000000 := by rw [← HNX.out]; exact HLE.out
   have e1 : IntKind.i64.wrap ((s : Int) + (x.length : Int)) = ((s + x.length : Nat) : Int) := by rw [IntWalk.i64_in _ (by omega)]; omega
   have hneg : ¬ ((s + x.length : Nat) : Int) < 0 := by omega
   have hkI : (k : Int) < (L.length : Int) := by omega
   have hk8 : (k : Int) ≤ 100000000 := by have := HL.out; omega
   subst ead
   clear hx hcell hC' hc' hs
   go_wp2
   exact ⟨⟨k + 1, by go_num, by omega, by rw [HNX.out, show ((s + x.length : Nat) : Int) = (s : Int) + (x.length : Int) by omega], HB⟩, by simp [intOf]; omega⟩
  ·obtain rfl : k = L.length := by omega
   rw [List.take_length]
   have HFN : Aside0 (L.flatten.length ≤ 10000000) := HF
   obtain ⟨s, hs⟩ : ∃ s, s = L.flatten.length := ⟨_, rfl⟩
   rw [← hs] at HFN ⊢
   clear hlt hs
   go_wp2_with (go_at_call 77; refine (grow_c s HFN.out).mono ?_; rintro e w1 ⟨u1, rfl, hR, hb1⟩; have HR1 := Aside0.mk (Kd.R_lower hR HB.out.size); have HB1 : Aside0 (Below w.heap.size w w1) := ⟨below_step HB.out hb1⟩; clear hR hb1)
   go_loopw [6, 27] (fun v6 v wr => ∃ k : Nat, v = .int .i64 (k : Int) ∧ k ≤ L.length ∧ Aside0 (Kd.R (Kd.int .i64) 3 wr w.heap.size (fun _ => True) v6 (L.take k).flatten) ∧ Aside0 (Below w.heap.size w wr)) (fun _ v _ => L.length - (intOf v).toNat)
   case atStart => exact ⟨0, rfl, Nat.zero_le _, HR1, HB1⟩
   case round =>
    clear HR1 HB1 HB
    obtain ⟨k, rfl, hk, HR, HB⟩ := hrel
    by_cases hlt : k < L.length
    ·obtain ⟨x, hx⟩ : ∃ x, x = L[k] := ⟨_, rfl⟩
     obtain ⟨ad, cs, ead, _, hK, hcell⟩ := Kd.C_get (Kd.C_below HC.out HB.out) [] (k : Int) (by omega) (by omega)
     rw [Int.toNat_natCast, show L.getD k [] = x by rw [hx, List.getD_eq_getElem?_getD, List.getElem?_eq_getElem hlt]; rfl] at hK
     obtain ⟨A', c', rfl, hc', hC'⟩ := hK
     have c0 := hcell 0 _ rfl
     rw [Int.toNat_natCast, show (Kd.slice 3 (Kd.int .i64)).sz = 1 from rfl, Nat.add_zero, Nat.mul_one] at c0
     have HNX : Aside0 ((L.take (k + 1)).flatten = (L.take k).flatten ++ x) := ⟨by rw [flat_take hlt, hx]⟩
     have HLE : Aside0 ((L.take (k + 1)).flatten.length ≤ 10000000) := ⟨Nat.le_trans (flat_le L (k + 1)) HF.out⟩
     rw [HNX.out, List.length_append] at HLE
     obtain ⟨o, ho⟩ : ∃ o, o = (L.take k).flatten := ⟨_, rfl⟩
     rw [← ho] at HNX HR HLE
     obtain ⟨A6, c6, e6⟩ := Kd.R_slice HR.out
     subst e6
     have hkI : (k : Int) < (L.length : Int) := by omega
     have hk8 : (k : Int) ≤ 100000000 := by have := HL.out; omega
     have HCX := Aside0.mk hC'
     subst ead
     clear hx hcell hC' hc' ho
     go_wp2_with ((with_reducible refine gate_builtin (b := .append) (xs := #[.tmp 31, .tmp 32]) rfl ?_); at_builtin; refine Kd.R_append_rows (Kd.int .i64) (w0 := w) w.heap.size rfl (.tmp 31) (.tmp 32) 31 3 (.int .i64 0) 8 rfl Try.underlying31 info3 rfl (by decide) (by omega) _ o x A' x.length c' (fun _ => True) (fun _ => False) (by first | (go_simp; done) | (go_simp; rfl)) (by first | (go_simp; done) | (go_simp; rfl)) HR.out HCX.out (fun x cs h => h) (fun _ h => h.elim) (fun _ _ => trivial) HB.out HB.out.size (by have := HLE.out; omega) ?_; intro v4 w4 hv hb hg hat; have HR4 := Aside0.mk hv; have HB4 := Aside0.mk hb; clear hv hb hg hat)
     exact ⟨⟨k + 1, by go_num, by omega, ⟨by rw [HNX.out]; exact HR4.out⟩, HB4⟩, by simp [intOf]; omega⟩
    ·obtain rfl : k = L.length := by omega
     rw [List.take_length] at HR
     clear hlt
     go_wp2
     go_ret
     exact ⟨_, rfl, HR.out, HB.out⟩
end Go.Proofs.Ytohhobcipfmkbaa.Cel
end
section
namespace Go.Proofs.Ytohhobcipfmkbaa.Cel
open Go.RowKit Go.Proofs.YtohhobcipfmkbaaW.PrintWords Go.Proofs.YtohhobcipfmkbaaW.PrintMore Go.Proofs.YtohhobcipfmkbaaW.PrintLast Go.Proofs.Ytohhobcipfmkbaa.U Go.Proofs.Ytohhobcipfmkbaa.PClusterFinest
theorem info31 : (Try.prog.info? 31).map (fun i => (i.zero, i.size, i.bytes)) = some (some (.slice none 0 0), 1, 24) := by kernel_rfl
abbrev ptr (b : Nat) : Value := .pointer (some ⟨b, 0, none⟩)
set_option maxRecDepth 100000 in
set_option maxHeartbeats 4000000 in
theorem has_c (A : Option Addr) (n c : Nat) (at_ : Int) {w : World} : Calls Try.prog 48 #[.slice A n c, .int .i64 at_] w fun e w' => e = .returned (.bool (decide (0 ≤ at_ ∧ at_ < n))) ∧ Below w.heap.size w w' := by
 by_cases h0 : 0 ≤ at_
 ·by_cases h1 : at_ < (n : Int)
  ·have e : decide (0 ≤ at_ ∧ at_ < (n : Int)) = true := decide_eq_true ⟨h0, h1⟩
   rw [e]
   go_enter Try.func48, Try.ntmps48
   go_wp2
   go_ret
   exact ⟨rfl, Below.refl _ _⟩
  ·have e : decide (0 ≤ at_ ∧ at_ < (n : Int)) = false := decide_eq_false (by omega)
   rw [e]
   go_enter Try.func48, Try.ntmps48
   go_wp2
   go_ret
   exact ⟨rfl, Below.refl _ _⟩
 ·have e : decide (0 ≤ at_ ∧ at_ < (n : Int)) = false := decide_eq_false (by omega)
  rw [e]
  go_enter Try.func48, Try.ntmps48
  go_wp2
  go_ret
  exact ⟨rfl, Below.refl _ _⟩
set_option maxRecDepth 100000 in
set_option maxHeartbeats 4000000 in
theorem new_c (n : Nat) (h : n ≤ 16777216) {w : World} : Calls Try.prog 13 #[.int .i64 n] w fun e w' => ∃ b, e = .returned (.tuple #[ptr b, .int .i64 0]) ∧ CellsAt 51 w' (fun k => w.heap.size ≤ k) b (List.replicate n []) [] ∧ Below w.heap.size w w' := by
 have h0 : ¬ (n : Int) < 0 := by omega
 have h1 : ¬ (n : Int) > 16777216 := by omega
 have HN : Aside0 (n ≤ 16777216) := ⟨h⟩
 clear h
 go_enter Try.func13, Try.ntmps13
 go_wp2_with (first | ((with_reducible refine gate_dst (N := 11) rfl ?_); refine Kd.R_make KH (w0 := w) w.heap.size 31 rfl rfl 48 (.tmp 10) (.tmp 10) rfl (n : Int) (by first | (go_simp; done) | (go_simp; rfl)) (by first | (go_simp; done) | (go_simp; rfl)) Try.underlying48 (.slice none 0 0) 24 info31 rfl (by decide) (by omega) ((none, 0, 0) : Hd) (ok := fun k => w.heap.size ≤ k) (okp := fun _ => False) rfl (fun _ h => h.elim) (Nat.le_refl _) (by omega) (by have := HN.out; simp only [Int.toNat_natCast]; omega) (Below.refl _ _) (Nat.le_refl _) ?_; intro v8 w1 hv hb hg hat; rw [Int.toNat_natCast] at hv; obtain ⟨A1, c1, e8⟩ := Kd.R_slice hv; rw [List.length_replicate] at e8; subst e8; have HR1 := Aside0.mk (RowAt.bound (RowAt.nils hv)); have HB1 := Aside0.mk hb; clear hv hb hg hat) | ((with_reducible refine gate_dst (N := 13) rfl ?_); refine box_event ?hg (N := 13) ?hd (cs := #[.slice A1 n c1, .slice none 0 0]) (t := 51) ?hr ?_; (case hd => rfl); (case hg => rfl); (case hr => first | (go_simp; done) | (go_simp; rfl)); intro gb hg w6 hbox hb; have HX := Aside0.mk hbox; have HG : Aside0 (w.heap.size ≤ gb) := ⟨by rw [hg]; exact HB1.out.size⟩; have HR6 : Aside0 (RowAt w6 (fun k => w.heap.size ≤ k ∧ k < gb) _ _) := ⟨by rw [hg]; exact (HR1.out.kept (S := fun _ => False) (Kept.of_below hb _) (fun _ _ h => h))⟩; have HR7 := Aside0.mk (HR1.out.kept (S := fun _ => False) (Kept.of_below hb _) (fun _ _ h => h)); have HB6 : Aside0 (Below w.heap.size w w6) := ⟨below_step HB1.out hb⟩; clear hg hbox hb))
 refine bodyPost_ret (results_tmp2 rfl _ _ _) rfl ?_
 exact ⟨gb, rfl, ⟨fun k => w.heap.size ≤ k ∧ k < gb, fun _ => False, _, _, fun k hk => ⟨hk.1, by omega⟩, fun _ h => h.elim, HG.out, HX.out, HR6.out, Kd.R_nil _ _ _ _ _⟩, HB6.out⟩
set_option maxRecDepth 100000 in
set_option maxHeartbeats 4000000 in
theorem set_bad {w : World} {D : Nat → Prop} {b : Nat} {L : List (List Int)} {J : List S33} (h : CellsAt 51 w D b L J) (at_ : Int) (hat : ¬ (0 ≤ at_ ∧ at_ < (L.length : Int))) (v : Value) : Calls Try.prog 24 #[ptr b, .int .i64 at_, v] w fun e w' => e = .returned (.int .i64 1) ∧ Below w.heap.size w w' := by
 obtain ⟨Dr, Dt, A, c, vt, hp⟩ := h.open_
 have c0 := (blk_cell hp.h1 0).trans rfl
 have HD : Aside0 (decide (0 ≤ at_ ∧ at_ < (L.length : Int)) = false) := ⟨decide_eq_false hat⟩
 clear h hp hat
 go_enter Try.func24, Try.ntmps24
 go_wp2_with (go_at_call 48; refine (has_c A L.length c at_).mono ?_; rintro e w1 ⟨rfl, hb⟩; rw [HD.out]; have HB := Aside0.mk hb; clear hb)
 go_ret
 exact ⟨rfl, HB.out⟩
set_option maxRecDepth 100000 in
set_option maxHeartbeats 4000000 in
theorem set_c {w : World} {D : Nat → Prop} {b : Nat} {L : List (List Int)} {J : List S33} (h : CellsAt 51 w D b L J) (k : Nat) (hk : k < L.length) {v : Value} {x : List Int} (hx : SL w v x) (hm : x.length ≤ 1000000) :
 Calls Try.prog 24 #[ptr b, .int .i64 k, v] w fun e w' => e = .returned (.int .i64 0) ∧ CellsAt 51 w' (fun q => D q ∨ w.heap.size ≤ q) b (L.set k x) J ∧ Eff w w' D := by
 obtain ⟨Dr, Dt, A, c, vt, hp⟩ := h.open_
 obtain ⟨g, cap, cells, e, hg, hlt, hblk⟩ := hp.h2.form (by omega)
 injection e with e1 e2 e3
 subst e1
 subst e3
 have c0 := (blk_cell hp.h1 0).trans rfl
 have HD : Aside0 (decide (0 ≤ (k : Int) ∧ (k : Int) < (L.length : Int)) = true) := ⟨decide_eq_true (by omega)⟩
 have HP := Aside0.mk hp
 have HX := Aside0.mk hx
 have HM := Aside0.mk hm
 have HK := Aside0.mk hk
 have hkI : (k : Int) < (L.length : Int) := by omega
 have hk0 : 0 ≤ (k : Int) := by omega
 have etk : (k : Int).toNat = k := Int.toNat_natCast _
 clear h hp hx hm hg hblk hk hlt
 go_enter Try.func24, Try.ntmps24
 go_upto_region 3 with (go_at_call 48; refine (has_c _ L.length c k).mono ?_; rintro e w1 ⟨rfl, hb⟩; rw [HD.out]; have HB := Aside0.mk hb; have HX1 := Aside0.mk (SLk.below HX.out hb); have HP1 := Aside0.mk (HP.out.below hb); have c1 := (blk_cell HP1.out.h1 0).trans rfl; clear hb)
 have hB1 := HB.out
 have HBD : Aside0 (Below w1.heap.size w1 w1.drew) := ⟨below_drew (Below.refl _ _)⟩
 refine start_ (n := 9) (S := (fun W => Below w1.heap.size w1 W)) (ds := [8]) #[false, false, false, false, false, false, false, false, false] (by kernel_rfl) (by kernel_rfl) (by rfl) HBD.out (fun hS0 => ?_)
 refine pure_ (i := 0) (N := (some 18)) (v := ?_) (a' := ?_) #[true, false, false, false, false, false, false, false, false] rfl rfl (by kernel_rfl) (fun _ _ _ h => h) (Or.inl ⟨by rfl, ?_⟩) ?_ ?_
 rotate_left
 ·intro w'
  go_simp
  with_reducible rfl
 rotate_left
 ·simp only [Act.put, List.setIfInBounds_toArray, List.set_cons_zero, List.set_cons_succ]
  rfl
 refine pure_ (i := 1) (N := (some 19)) (v := ?_) (a' := ?_) #[true, true, false, false, false, false, false, false, false] rfl rfl (by kernel_rfl) (fun _ _ _ h => h) (Or.inl ⟨by rfl, ?_⟩) ?_ ?_
 rotate_left
 ·intro w'
  go_simp
  with_reducible rfl
 rotate_left
 ·simp only [Act.put, List.setIfInBounds_toArray, List.set_cons_zero, List.set_cons_succ]
  rfl
 refine pure_ (i := 2) (N := (some 20)) (v := ?_) (a' := ?_) #[true, true, true, false, false, false, false, false, false] rfl rfl (by kernel_rfl) (fun _ _ _ h => h) (Or.inl ⟨by rfl, ?_⟩) ?_ ?_
 rotate_left
 ·intro w'
  go_simp
  with_reducible rfl
 rotate_left
 ·simp only [Act.put, List.setIfInBounds_toArray, List.set_cons_zero, List.set_cons_succ]
  rfl
 refine take_ (i := 3) (N := (some 21)) (v := ?_) (a' := ?_) #[true, true, true, true, false, false, false, false, false] rfl rfl (by kernel_rfl) (fun _ _ _ h => h) (Or.inl ⟨by rfl, ?_⟩) hS0 ?_ ?_
 rotate_left
 ·intro w' s0
  have hx0 := (s0.cell (World.block_lt_of_cell? _ _ c1)).trans c1
  go_simp
  with_reducible rfl
 rotate_left
 ·simp only [Act.put, List.setIfInBounds_toArray, List.set_cons_zero, List.set_cons_succ]
  rfl
 refine pure_ (i := 4) (N := (some 22)) (v := ?_) (a' := ?_) #[true, true, true, true, true, false, false, false, false] rfl rfl (by kernel_rfl) (fun _ _ _ h => h) (Or.inl ⟨by rfl, ?_⟩) ?_ ?_
 rotate_left
 ·intro w'
  go_simp
  with_reducible rfl
 rotate_left
 ·simp only [Act.put, List.setIfInBounds_toArray, List.set_cons_zero, List.set_cons_succ]
  rfl
 refine pure_ (i := 5) (N := (some 23)) (v := ?_) (a' := ?_) #[true, true, true, true, true, true, false, false, false] rfl rfl (by kernel_rfl) (fun _ _ _ h => h) (Or.inl ⟨by rfl, ?_⟩) ?_ ?_
 rotate_left
 ·intro w'
  go_simp
  with_reducible rfl
 rotate_left
 ·simp only [Act.put, List.setIfInBounds_toArray, List.set_cons_zero, List.set_cons_succ]
  rfl
 clear hS0
 refine one_ (i := 6) (N := (some 24)) #[true, true, true, true, true, true, true, false, false] rfl rfl (by kernel_rfl) (by decide) (fun K hK => ?_)
 refine goes_ Try.func42 (by kernel_rfl) rfl #[v] (by rfl) rfl rfl (by go_simp; done) ?_
 refine (clone_c (SLk.below HX1.out HBD.out) HM.out).mono ?_
 rintro e w2 ⟨u, rfl, hR, hb2⟩
 obtain ⟨AU, cu, eu⟩ := Kd.R_slice hR
 subst eu
 refine ⟨_, rfl, ?_⟩
 have HU : Aside0 (SLD w2 (fun q => w.heap.size ≤ q) (.slice AU x.length cu) x) := ⟨SLD.of_R (Kd.R_mono (Kd.R_bound hR) (fun q hq => Nat.le_trans HB.out.size (Nat.le_trans HBD.out.size hq.2.1)))⟩
 have HB2 : Aside0 (Below w1.heap.size w1 w2) := ⟨below_step HBD.out hb2⟩
 clear hR hb2
 change K (Act.put _ (some 24) _) _
 refine hK.out _ _ HB2.out (fun hS0 => ?_)
 clear hK
 refine norm_ (a' := ?_) ?_ ?_
 rotate_left
 ·simp only [Act.put, List.setIfInBounds_toArray, List.set_cons_zero, List.set_cons_succ]
  rfl
 obtain ⟨hd2, z0, z1, -⟩ := (HP1.out.below HB2.out).h2.cell k HK.out
 refine pure_ (i := 7) (N := (some 25)) (v := ?_) (a' := ?_) #[true, true, true, true, true, true, true, true, false] rfl rfl (by kernel_rfl) (fun _ _ _ h => h) (Or.inl ⟨by rfl, ?_⟩) ?_ ?_
 rotate_left
 ·intro w'
  go_simp
  with_reducible rfl
 rotate_left
 ·simp only [Act.put, List.setIfInBounds_toArray, List.set_cons_zero, List.set_cons_succ]
  rfl
 clear hS0
 refine last_ (i := 8) (N := none) #[true, true, true, true, true, true, true, true, true] rfl rfl (by kernel_rfl) (by decide) (fun K hK => ?_)
 refine skip_ (w1 := w2.setCell ⟨g, k, none⟩ (.slice AU x.length cu)) (by rfl) rfl (by go_simp) ?_
 refine hK.out _ _ ?_
 clear hK
 refine done_ (by kernel_rfl) ?_
 go_wp2
 go_ret
 obtain ⟨q1, _, q3⟩ := HP.out.put (below_step HB.out HB2.out) k HK.out HU.out
 exact ⟨rfl, q1, q3⟩
end Go.Proofs.Ytohhobcipfmkbaa.Cel
end
section
namespace Go.Proofs.Ytohhobcipfmkbaa.Cel
open Go.RowKit Go.Proofs.YtohhobcipfmkbaaW.PrintWords Go.Proofs.YtohhobcipfmkbaaW.PrintMore Go.Proofs.YtohhobcipfmkbaaW.PrintLast Go.Proofs.Ytohhobcipfmkbaa.U Go.Proofs.Ytohhobcipfmkbaa.PClusterFinest
theorem two_slk {w : World} {g : Nat} {vx vy : Value} {x y : List Int} (h : w.heap[g]? = some (.cells #[vx, vy] 31 (0, 0))) (hx : SL w vx x) (hy : SL w vy y) : SLk (Kd.slice 3 (Kd.int .i64)) w (.slice (some ⟨g, 0, none⟩) 2 2) [x, y] := by
 obtain ⟨A, c, rfl, hc, hC⟩ := hx
 obtain ⟨B, d, rfl, hd, hD⟩ := hy
 refine ⟨_, _, rfl, Nat.le_refl _, rfl, by simp, fun _ => ⟨_, rfl, fun j p hj => ?_⟩⟩
 match j, hj with
 | 0, hj =>
  obtain rfl := Option.some.inj hj
  refine ⟨_, rfl, ⟨A, c, rfl, hc, hC⟩, fun k u hu => ?_⟩
  cases k with
  | zero => rw [add_plain, blk_cell h]; exact hu
  | succ k => simp at hu
 | 1, hj =>
  obtain rfl := Option.some.inj hj
  refine ⟨_, rfl, ⟨B, d, rfl, hd, hD⟩, fun k u hu => ?_⟩
  cases k with
  | zero => rw [add_plain, blk_cell h]; exact hu
  | succ k => simp at hu
set_option maxRecDepth 100000 in
set_option maxHeartbeats 4000000 in
theorem ahead_bad {w : World} {D : Nat → Prop} {b : Nat} {J : List S33} (h : CellsAt 51 w D b [] J) (v : Value) : Calls Try.prog 25 #[ptr b, v] w fun e w' => e = .returned (.int .i64 1) ∧ Below w.heap.size w w' := by
 obtain ⟨Dr, Dt, A, c, vt, hp⟩ := h.open_
 have c0 := (blk_cell hp.h1 0).trans rfl
 clear h hp
 go_enter Try.func25, Try.ntmps25
 go_wp2
 go_ret
 exact ⟨rfl, Below.refl _ _⟩
set_option maxRecDepth 100000 in
set_option maxHeartbeats 4000000 in
theorem ahead_c {w : World} {D : Nat → Prop} {b : Nat} {L : List (List Int)} {J : List S33} (h : CellsAt 51 w D b L J) (hl : 0 < L.length) (hl8 : L.length ≤ 100000000) {v : Value} {x : List Int} (hx : SL w v x) (hm : x.length + (L[0]'(by omega)).length ≤ 1000000) :
 Calls Try.prog 25 #[ptr b, v] w fun e w' => e = .returned (.int .i64 0) ∧ CellsAt 51 w' (fun q => D q ∨ w.heap.size ≤ q) b (L.set (0) (x ++ L[0]'(by omega))) J ∧ Eff w w' D := by
 obtain ⟨k, hk⟩ : ∃ k, k = 0 := ⟨_, rfl⟩
 have hkl : k < L.length := by omega
 obtain ⟨y, hy⟩ : ∃ y, y = L[k] := ⟨_, rfl⟩
 have hyy : L[0]'(by omega) = y := by subst hk; exact hy.symm
 rw [hyy] at hm ⊢
 rw [← hk]
 obtain ⟨Dr, Dt, A, c, vt, hp⟩ := h.open_
 obtain ⟨g, cap, cells, e, hg, hlt, hblk⟩ := hp.h2.form hl
 injection e with e1 e2 e3
 subst e1
 subst e3
 obtain ⟨hd, z0, z1, z2⟩ := hp.h2.cell k hkl
 rw [← hy] at z2
 obtain ⟨Ay, cy, ey, _, _⟩ := z2.1
 rw [ey] at z0 z2
 obtain ⟨Ax, cx, rfl, hcx, hCx⟩ := hx
 have HX : Aside0 (SL w (.slice Ax x.length cx) x) := ⟨⟨Ax, cx, rfl, hcx, hCx⟩⟩
 have HY := Aside0.mk z2.1
 have c0 := (blk_cell hp.h1 0).trans rfl
 have HP := Aside0.mk hp
 have HM := Aside0.mk hm
 have HK := Aside0.mk hkl
 have hkI : (k : Int) < (L.length : Int) := by omega
 have hlI : (0 : Int) < (L.length : Int) := by omega
 have hl0 : ¬ (L.length : Int) = 0 := by omega
 have hk0 : 0 ≤ (k : Int) := by omega
 have etk : (k : Int).toNat = k := Int.toNat_natCast _
 have HKE := Aside0.mk hk
 subst hk
 have HKZ : Aside0 True := ⟨trivial⟩
 clear h hp hm hg hblk hlt hkl hy hyy z1 z2 hcx hCx ey
 go_enter Try.func25, Try.ntmps25
 go_upto_region 3 with (fail)
 have HBD : Aside0 (Below w.heap.size w w.drew) := ⟨below_drew (Below.refl _ _)⟩
 refine start_ (n := 15) (S := (fun W => Below w.heap.size w W)) (ds := [14]) #[false, false, false, false, false, false, false, false, false, false, false, false, false, false, false] (by kernel_rfl) (by kernel_rfl) (by rfl) HBD.out (fun hS0 => ?_)
 refine pure_ (i := 0) (N := (some 15)) (v := ?_) (a' := ?_) #[true, false, false, false, false, false, false, false, false, false, false, false, false, false, false] rfl rfl (by kernel_rfl) (fun _ _ _ h => h) (Or.inl ⟨by rfl, ?_⟩) ?_ ?_
 rotate_left
 ·intro w'
  go_simp
  with_reducible rfl
 rotate_left
 ·simp only [Act.put, List.setIfInBounds_toArray, List.set_cons_zero, List.set_cons_succ]
  rfl
 refine pure_ (i := 1) (N := (some 16)) (v := ?_) (a' := ?_) #[true, true, false, false, false, false, false, false, false, false, false, false, false, false, false] rfl rfl (by kernel_rfl) (fun _ _ _ h => h) (Or.inl ⟨by rfl, ?_⟩) ?_ ?_
 rotate_left
 ·intro w'
  go_simp
  with_reducible rfl
 rotate_left
 ·simp only [Act.put, List.setIfInBounds_toArray, List.set_cons_zero, List.set_cons_succ]
  rfl
 refine pure_ (i := 2) (N := (some 17)) (v := ?_) (a' := ?_) #[true, true, true, false, false, false, false, false, false, false, false, false, false, false, false] rfl rfl (by kernel_rfl) (fun _ _ _ h => h) (Or.inl ⟨by rfl, ?_⟩) ?_ ?_
 rotate_left
 ·intro w'
  go_simp
  with_reducible rfl
 rotate_left
 ·simp only [Act.put, List.setIfInBounds_toArray, List.set_cons_zero, List.set_cons_succ]
  rfl
 refine take_ (i := 3) (N := (some 18)) (v := ?_) (a' := ?_) #[true, true, true, true, false, false, false, false, false, false, false, false, false, false, false] rfl rfl (by kernel_rfl) (fun _ _ _ h => h) (Or.inl ⟨by rfl, ?_⟩) hS0 ?_ ?_
 rotate_left
 ·intro w' s0
  have hx0 := (s0.cell (World.block_lt_of_cell? _ _ c0)).trans c0
  go_simp
  with_reducible rfl
 rotate_left
 ·simp only [Act.put, List.setIfInBounds_toArray, List.set_cons_zero, List.set_cons_succ]
  rfl
 refine pure_ (i := 4) (N := (some 19)) (v := ?_) (a' := ?_) #[true, true, true, true, true, false, false, false, false, false, false, false, false, false, false] rfl rfl (by kernel_rfl) (fun _ _ _ h => h) (Or.inl ⟨by rfl, ?_⟩) ?_ ?_
 rotate_left
 ·intro w'
  go_simp
  with_reducible rfl
 rotate_left
 ·simp only [Act.put, List.setIfInBounds_toArray, List.set_cons_zero, List.set_cons_succ]
  rfl
 refine pure_ (i := 5) (N := (some 20)) (v := ?_) (a' := ?_) #[true, true, true, true, true, true, false, false, false, false, false, false, false, false, false] rfl rfl (by kernel_rfl) (fun _ _ _ h => h) (Or.inl ⟨by rfl, ?_⟩) ?_ ?_
 rotate_left
 ·intro w'
  go_simp
  with_reducible rfl
 rotate_left
 ·simp only [Act.put, List.setIfInBounds_toArray, List.set_cons_zero, List.set_cons_succ]
  rfl
 refine pure_ (i := 6) (N := (some 21)) (v := ?_) (a' := ?_) #[true, true, true, true, true, true, true, false, false, false, false, false, false, false, false] rfl rfl (by kernel_rfl) (fun _ _ _ h => h) (Or.inl ⟨by rfl, ?_⟩) ?_ ?_
 rotate_left
 ·intro w'
  go_simp
  with_reducible rfl
 rotate_left
 ·simp only [Act.put, List.setIfInBounds_toArray, List.set_cons_zero, List.set_cons_succ]
  rfl
 refine pure_ (i := 7) (N := (some 22)) (v := ?_) (a' := ?_) #[true, true, true, true, true, true, true, true, false, false, false, false, false, false, false] rfl rfl (by kernel_rfl) (fun _ _ _ h => h) (Or.inl ⟨by rfl, ?_⟩) ?_ ?_
 rotate_left
 ·intro w'
  go_simp
  with_reducible rfl
 rotate_left
 ·simp only [Act.put, List.setIfInBounds_toArray, List.set_cons_zero, List.set_cons_succ]
  rfl
 refine take_ (i := 8) (N := (some 23)) (v := ?_) (a' := ?_) #[true, true, true, true, true, true, true, true, true, false, false, false, false, false, false] rfl rfl (by kernel_rfl) (fun _ _ _ h => h) (Or.inl ⟨by rfl, ?_⟩) hS0 ?_ ?_
 rotate_left
 ·intro w' s0
  have hx0 := (s0.cell (World.block_lt_of_cell? _ _ c0)).trans c0
  go_simp
  with_reducible rfl
 rotate_left
 ·simp only [Act.put, List.setIfInBounds_toArray, List.set_cons_zero, List.set_cons_succ]
  rfl
 refine pure_ (i := 9) (N := (some 24)) (v := ?_) (a' := ?_) #[true, true, true, true, true, true, true, true, true, true, false, false, false, false, false] rfl rfl (by kernel_rfl) (fun _ _ _ h => h) (Or.inl ⟨by rfl, ?_⟩) ?_ ?_
 rotate_left
 ·intro w'
  go_simp
  with_reducible rfl
 rotate_left
 ·simp only [Act.put, List.setIfInBounds_toArray, List.set_cons_zero, List.set_cons_succ]
  rfl
 refine take_ (i := 10) (N := (some 25)) (v := ?_) (a' := ?_) #[true, true, true, true, true, true, true, true, true, true, true, false, false, false, false] rfl rfl (by kernel_rfl) (fun _ _ _ h => h) (Or.inl ⟨by rfl, ?_⟩) hS0 ?_ ?_
 rotate_left
 ·intro w' s0
  have hx0 := (s0.cell (World.block_lt_of_cell? _ _ z0)).trans z0
  go_simp
  with_reducible rfl
 rotate_left
 ·simp only [Act.put, List.setIfInBounds_toArray, List.set_cons_zero, List.set_cons_succ]
  rfl
 clear hS0
 refine one_ (i := 11) (N := (some 26)) #[true, true, true, true, true, true, true, true, true, true, true, true, false, false, false] rfl rfl (by kernel_rfl) (by decide) (fun K hK => ?_)
 obtain ⟨wA, ewA⟩ : ∃ W, W = w.drew.alloc (.cells #[.slice Ax x.length cx, .slice Ay y.length cy] 31 (0, 0)) := ⟨_, rfl⟩
 obtain ⟨ga, hga⟩ : ∃ ga, ga = w.drew.heap.size := ⟨_, rfl⟩
 have HBA : Aside0 (Below w.heap.size w wA) := ⟨by rw [ewA]; exact below_alloc HBD.out _⟩
 have HXA : Aside0 (wA.heap[ga]? = some (.cells #[.slice Ax x.length cx, .slice Ay y.length cy] 31 (0, 0))) := ⟨by rw [ewA, hga]; exact (MapKept.heap_alloc w.drew _).1⟩
 refine value_ (w1 := wA) (v := .slice (some ⟨ga, 0, none⟩) 2 2) (by rfl) rfl (by rw [ewA, hga]; go_simp) ?_
 clear ewA hga
 change K (Act.put _ (some 26) _) _
 refine hK.out _ _ HBA.out (fun hS0 => ?_)
 clear hK
 refine norm_ (a' := ?_) ?_ ?_
 rotate_left
 ·simp only [Act.put, List.setIfInBounds_toArray, List.set_cons_zero, List.set_cons_succ]
  rfl
 clear hS0
 refine one_ (i := 12) (N := (some 27)) #[true, true, true, true, true, true, true, true, true, true, true, true, true, false, false] rfl rfl (by kernel_rfl) (by decide) (fun K hK => ?_)
 refine goes_ Try.func47 (by kernel_rfl) rfl #[.slice (some ⟨ga, 0, none⟩) 2 2] (by rfl) rfl rfl (by go_simp; done) ?_
 refine (concat_c (two_slk HXA.out (SLk.below HX.out HBA.out) (SLk.below HY.out HBA.out)) (by simp) (by simp only [List.flatten_cons, List.flatten_nil, List.append_nil, List.length_append]; have := HM.out; omega)).mono ?_
 rintro e w2 ⟨u, rfl, hR, hb2⟩
 rw [show [x, y].flatten = x ++ y by simp] at hR
 obtain ⟨AU, cu, eu⟩ := Kd.R_slice hR
 subst eu
 refine ⟨_, rfl, ?_⟩
 have HU : Aside0 (SLD w2 (fun q => w.heap.size ≤ q) (.slice AU (x ++ y).length cu) (x ++ y)) := ⟨SLD.of_R (Kd.R_mono (Kd.R_bound hR) (fun q hq => Nat.le_trans HBA.out.size hq.2.1))⟩
 have HB2 : Aside0 (Below w.heap.size w w2) := ⟨below_step HBA.out hb2⟩
 clear hR hb2
 change K (Act.put _ (some 27) _) _
 refine hK.out _ _ HB2.out (fun hS0 => ?_)
 clear hK
 refine norm_ (a' := ?_) ?_ ?_
 rotate_left
 ·simp only [Act.put, List.setIfInBounds_toArray, List.set_cons_zero, List.set_cons_succ]
  rfl
 obtain ⟨hd2, y0, y1, -⟩ := (HP.out.below HB2.out).h2.cell 0 HK.out
 refine pure_ (i := 13) (N := (some 28)) (v := ?_) (a' := ?_) #[true, true, true, true, true, true, true, true, true, true, true, true, true, true, false] rfl rfl (by kernel_rfl) (fun _ _ _ h => h) (Or.inl ⟨by rfl, ?_⟩) ?_ ?_
 rotate_left
 ·intro w'
  go_simp
  with_reducible rfl
 rotate_left
 ·simp only [Act.put, List.setIfInBounds_toArray, List.set_cons_zero, List.set_cons_succ]
  rfl
 clear hS0
 refine last_ (i := 14) (N := none) #[true, true, true, true, true, true, true, true, true, true, true, true, true, true, true] rfl rfl (by kernel_rfl) (by decide) (fun K hK => ?_)
 refine skip_ (w1 := w2.setCell ⟨g, 0, none⟩ (.slice AU (x ++ y).length cu)) (by rfl) rfl (by go_simp) ?_
 refine hK.out _ _ ?_
 clear hK
 refine done_ (by kernel_rfl) ?_
 go_wp2
 go_ret
 obtain ⟨q1, _, q3⟩ := HP.out.put HB2.out 0 HK.out HU.out
 rw [List.length_append] at q1 q3
 exact ⟨rfl, q1, q3⟩
set_option maxRecDepth 100000 in
set_option maxHeartbeats 4000000 in
theorem text_c {w : World} {D : Nat → Prop} {b : Nat} {L : List (List Int)} {J : List S33} (h : CellsAt 51 w D b L J) (hl8 : L.length ≤ 100000000) (hf : L.flatten.length ≤ 10000000) :
 Calls Try.prog 17 #[ptr b] w fun e w' => ∃ u, e = .returned u ∧ Kd.R (Kd.int .i64) 3 w' w.heap.size (fun _ => True) u L.flatten ∧ Below w.heap.size w w' := by
 obtain ⟨Dr, Dt, A, c, vt, hp⟩ := h.open_
 have c0 := (blk_cell hp.h1 0).trans rfl
 have HR := Aside0.mk (hp.h2.reads 3)
 have HL := Aside0.mk hl8
 have HF := Aside0.mk hf
 clear h hp hl8 hf
 go_enter Try.func17, Try.ntmps17
 go_wp2_with (go_at_call 47; refine (concat_c HR.out HL.out HF.out).mono ?_; rintro e w1 ⟨u, rfl, hu, hb⟩; have HU := Aside0.mk hu; have HB := Aside0.mk hb; clear hu hb)
 go_ret
 exact ⟨_, rfl, HU.out, HB.out⟩
set_option maxRecDepth 100000 in
set_option maxHeartbeats 4000000 in
theorem at_bad {w : World} {D : Nat → Prop} {b : Nat} {L : List (List Int)} {J : List S33} (h : CellsAt 51 w D b L J) (at_ : Int) (hat : ¬ (0 ≤ at_ ∧ at_ < (L.length : Int))) : Calls Try.prog 19 #[ptr b, .int .i64 at_] w fun e w' => e = .returned (.slice none 0 0) ∧ Below w.heap.size w w' := by
 obtain ⟨Dr, Dt, A, c, vt, hp⟩ := h.open_
 have c0 := (blk_cell hp.h1 0).trans rfl
 have HD : Aside0 (decide (0 ≤ at_ ∧ at_ < (L.length : Int)) = false) := ⟨decide_eq_false hat⟩
 clear h hp hat
 go_enter Try.func19, Try.ntmps19
 go_wp2_with (go_at_call 48; refine (has_c A L.length c at_).mono ?_; rintro e w1 ⟨rfl, hb⟩; rw [HD.out]; have HB := Aside0.mk hb; clear hb)
 go_ret
 exact ⟨rfl, HB.out⟩
set_option maxRecDepth 100000 in
set_option maxHeartbeats 4000000 in
theorem at_c {w : World} {D : Nat → Prop} {b : Nat} {L : List (List Int)} {J : List S33} (h : CellsAt 51 w D b L J) (k : Nat) (hk : k < L.length) (hm : L[k].length ≤ 1000000) :
 Calls Try.prog 19 #[ptr b, .int .i64 k] w fun e w' => ∃ u, e = .returned u ∧ Kd.R (Kd.int .i64) 3 w' w.heap.size (fun _ => True) u L[k] ∧ Below w.heap.size w w' := by
 obtain ⟨y, hy⟩ : ∃ y, y = L[k] := ⟨_, rfl⟩
 rw [← hy] at hm ⊢
 obtain ⟨Dr, Dt, A, c, vt, hp⟩ := h.open_
 obtain ⟨g, cap, cells, e, hg, hlt, hblk⟩ := hp.h2.form (by omega)
 injection e with e1 e2 e3
 subst e1
 subst e3
 obtain ⟨hd, z0, z1, z2⟩ := hp.h2.cell k hk
 rw [← hy] at z2
 obtain ⟨Ay, cy, ey, _, _⟩ := z2.1
 rw [ey] at z0 z2
 have c0 := (blk_cell hp.h1 0).trans rfl
 have HD : Aside0 (decide (0 ≤ (k : Int) ∧ (k : Int) < (L.length : Int)) = true) := ⟨decide_eq_true (by omega)⟩
 have HY := Aside0.mk z2.1
 have HM := Aside0.mk hm
 have hkI : (k : Int) < (L.length : Int) := by omega
 have hk0 : 0 ≤ (k : Int) := by omega
 have etk : (k : Int).toNat = k := Int.toNat_natCast _
 have HC0 := Aside0.mk c0
 have HZ0 := Aside0.mk z0
 clear h hp hg hblk hlt hk hy z1 z2 ey hm z0
 go_enter Try.func19, Try.ntmps19
 go_wp2_with (first | (go_at_call 48; refine (has_c _ L.length c k).mono ?_; rintro e w1 ⟨rfl, hb⟩; rw [HD.out]; have HB := Aside0.mk hb; have c1 := (hb.cell (World.block_lt_of_cell? _ _ HC0.out)).trans HC0.out; have z1 := (hb.cell (World.block_lt_of_cell? _ _ HZ0.out)).trans HZ0.out; have HY1 := Aside0.mk (SLk.below HY.out hb); clear hb) | (go_at_call 42; refine (clone_c HY1.out HM.out).mono ?_; rintro e w2 ⟨u, rfl, hu, hb⟩; have HU := Aside0.mk (Kd.R_lower hu HB.out.size); have HB2 : Aside0 (Below w.heap.size w w2) := ⟨below_step HB.out hb⟩; clear hu hb))
 go_ret
 exact ⟨_, rfl, HU.out, HB2.out⟩
end Go.Proofs.Ytohhobcipfmkbaa.Cel
end
