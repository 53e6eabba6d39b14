/- Texts of this claim, cut to what it needs. -/
import Derived.Sort.LotA
namespace Go.Proofs.Ytohhobcipfmkbaa.UStable
open Go.Sort
set_option linter.unusedVariables false
set_option linter.unusedSimpArgs false
variable {α : Type} [Inhabited α]
def swapRange (a b : Nat) : Nat → Array α → Array α
  | 0, d => d
  | k + 1, d => swp (swapRange a b k d) (a + k) (b + k)
theorem swapRange_size (a b k : Nat) (d : Array α) : (swapRange a b k d).size = d.size := by
  induction k with
  | zero => rfl
  | succ k ih => rw [swapRange, size_swp, ih]
theorem at_eq (d : Array α) {x y : Nat} (h : x = y) : d[x]! = d[y]! := by rw [h]
theorem swapRange_get (a b k : Nat) (d : Array α) (h1 : a + k ≤ b) (h2 : b + k ≤ d.size) (x : Nat) :
    (swapRange a b k d)[x]! = if a ≤ x ∧ x < a + k then d[x + b - a]! else if b ≤ x ∧ x < b + k then d[x + a - b]! else d[x]! := by
  induction k generalizing x with
  | zero =>
    rw [swapRange, if_neg (by omega), if_neg (by omega)]
  | succ k ih =>
    have ih := ih (by omega) (by omega)
    rw [swapRange, swp_get _ (by rw [swapRange_size]; omega) (by rw [swapRange_size]; omega)]
    by_cases e1 : x = b + k
    · subst e1
      rw [if_pos rfl, ih, if_neg (by omega), if_neg (by omega), if_neg (by omega), if_pos (by omega)]
      exact at_eq _ (by omega)
    · rw [if_neg e1]
      by_cases e2 : x = a + k
      · subst e2
        rw [if_pos rfl, ih, if_neg (by omega), if_neg (by omega), if_pos (by omega)]
        exact at_eq _ (by omega)
      · rw [if_neg e2, ih]
        by_cases c1 : a ≤ x ∧ x < a + k
        · rw [if_pos c1, if_pos (by omega)]
        · rw [if_neg c1]
          by_cases c2 : b ≤ x ∧ x < b + k
          · rw [if_pos c2, if_neg (by omega), if_pos (by omega)]
          · rw [if_neg c2, if_neg (by omega), if_neg (by omega)]
theorem swapRange_perm (lo hi a b k : Nat) (d : Array α) (h0 : lo ≤ a) (h1 : a + k ≤ b) (h3 : b + k ≤ hi) (h2 : hi ≤ d.size) : PermIn lo hi d (swapRange a b k d) := by
  induction k with
  | zero => exact permIn_refl _ _ _
  | succ k ih => exact permIn_trans _ _ _ _ _ (ih (by omega) (by omega)) (swp_permIn _ _ _ _ _ (by omega) (by omega) (by omega) (by omega) (by rw [swapRange_size]; exact h2))
def rotLoop (m : Nat) : Nat → Nat → Nat → Array α → Array α
  | 0, _, _, d => d
  | f + 1, i, j, d => if i = j then swapRange (m - i) m i d else if j < i then rotLoop m f (i - j) j (swapRange (m - i) m j d) else rotLoop m f i (j - i) (swapRange (m - i) (m + j - i) i d)
def rotate (a m b : Nat) (d : Array α) : Array α := rotLoop m (m - a + (b - m)) (m - a) (b - m) d
structure IsRot (lo mid hi : Nat) (d d' : Array α) : Prop where
  perm : PermIn lo hi d d'
  get : ∀ x, d'[x]! = if lo ≤ x ∧ x < lo + (hi - mid) then d[x + (mid - lo)]! else if lo + (hi - mid) ≤ x ∧ x < hi then d[x - (hi - mid)]! else d[x]!
theorem rotLoop_is (m : Nat) (f : Nat) : ∀ (i j : Nat) (d : Array α), 0 < i → 0 < j → i ≤ m → m + j ≤ d.size → i + j ≤ f → IsRot (m - i) m (m + j) d (rotLoop m f i j d) := by
  induction f with
  | zero => intro i j d h1 h2 h3 h4 h5; omega
  | succ f ih =>
    intro i j d h1 h2 h3 h4 h5
    unfold rotLoop
    by_cases e : i = j
    · subst e
      rw [if_pos rfl]
      refine ⟨swapRange_perm _ _ _ _ _ _ (Nat.le_refl _) (by omega) (Nat.le_refl _) h4, fun x => ?_⟩
      rw [swapRange_get _ _ _ _ (by omega) h4]
      by_cases c1 : m - i ≤ x ∧ x < m - i + i
      · rw [if_pos c1, if_pos (by omega)]; exact at_eq _ (by omega)
      · rw [if_neg c1]
        by_cases c2 : m ≤ x ∧ x < m + i
        · rw [if_pos c2, if_neg (by omega), if_pos (by omega)]; exact at_eq _ (by omega)
        · rw [if_neg c2, if_neg (by omega), if_neg (by omega)]
    · rw [if_neg e]
      by_cases e2 : j < i
      · rw [if_pos e2]
        have hs := swapRange_size (m - i) m j d
        have h := ih (i - j) j (swapRange (m - i) m j d) (by omega) h2 (by omega) (by rw [hs]; exact h4) (by omega)
        refine ⟨permIn_trans _ _ _ _ _ (swapRange_perm _ _ _ _ _ _ (Nat.le_refl _) (by omega) (Nat.le_refl _) h4) (permIn_mono _ _ _ _ _ _ (by omega) (Nat.le_refl _) (by rw [hs]; exact h4) h.perm), fun x => ?_⟩
        have hg := swapRange_get (m - i) m j d (by omega) (by omega)
        rw [h.get]
        by_cases c1 : m - (i - j) ≤ x ∧ x < m - (i - j) + (m + j - m)
        · rw [if_pos c1, hg, if_neg (by omega), if_pos (by omega), if_neg (by omega), if_pos (by omega)]; exact at_eq _ (by omega)
        · rw [if_neg c1]
          by_cases c2 : m - (i - j) + (m + j - m) ≤ x ∧ x < m + j
          · rw [if_pos c2, hg, if_neg (by omega), if_neg (by omega), if_neg (by omega), if_pos (by omega)]
          · rw [if_neg c2, hg]
            by_cases c3 : m - i ≤ x ∧ x < m - i + j
            · rw [if_pos c3, if_pos (by omega)]; exact at_eq _ (by omega)
            · rw [if_neg c3, if_neg (by omega), if_neg (by omega), if_neg (by omega)]
      · rw [if_neg e2]
        have hs := swapRange_size (m - i) (m + j - i) i d
        have h := ih i (j - i) (swapRange (m - i) (m + j - i) i d) h1 (by omega) (by omega) (by rw [hs]; omega) (by omega)
        refine ⟨permIn_trans _ _ _ _ _ (swapRange_perm _ _ _ _ _ _ (Nat.le_refl _) (by omega) (by omega) h4) (permIn_mono _ _ _ _ _ _ (by omega) (by omega) (by rw [hs]; exact h4) h.perm), fun x => ?_⟩
        have hg := swapRange_get (m - i) (m + j - i) i d (by omega) (by omega)
        rw [h.get]
        by_cases c1 : m - i ≤ x ∧ x < m - i + (m + (j - i) - m)
        · rw [if_pos c1, hg, if_neg (by omega), if_neg (by omega), if_pos (by omega)]
        · rw [if_neg c1]
          by_cases c2 : m - i + (m + (j - i) - m) ≤ x ∧ x < m + (j - i)
          · rw [if_pos c2, hg]
            rw [if_pos (by omega)]
            by_cases c3 : x < m - i + j
            · rw [if_pos (by omega)]; exact at_eq _ (by omega)
            · rw [if_neg (by omega), if_pos (by omega)]; exact at_eq _ (by omega)
          · rw [if_neg c2, hg]
            by_cases c3 : m + j - i ≤ x ∧ x < m + j - i + i
            · rw [if_neg (by omega), if_pos c3, if_neg (by omega), if_pos (by omega)]; exact at_eq _ (by omega)
            · rw [if_neg (by omega), if_neg c3, if_neg (by omega), if_neg (by omega)]
theorem rotate_is (a m b : Nat) (d : Array α) (h1 : a < m) (h2 : m < b) (h3 : b ≤ d.size) : IsRot a m b d (rotate a m b d) := by
  have h := rotLoop_is m (m - a + (b - m)) (m - a) (b - m) d (by omega) (by omega) (by omega) (by omega) (Nat.le_refl _)
  rw [show m - (m - a) = a by omega, show m + (b - m) = b by omega] at h
  exact h
def bubUp (a : Nat) : Nat → Array α → Array α
  | 0, d => d
  | t + 1, d => swp (bubUp a t d) (a + t) (a + t + 1)
theorem bubUp_size (a t : Nat) (d : Array α) : (bubUp a t d).size = d.size := by
  induction t with
  | zero => rfl
  | succ t ih => rw [bubUp, size_swp, ih]
theorem bubUp_is (a t : Nat) (d : Array α) (h : a + t < d.size) : IsRot a (a + 1) (a + 1 + t) d (bubUp a t d) := by
  induction t with
  | zero =>
    refine ⟨permIn_refl _ _ _, fun x => ?_⟩
    rw [if_neg (by omega)]
    by_cases c : a + (a + 1 + 0 - (a + 1)) ≤ x ∧ x < a + 1 + 0
    · rw [if_pos c]; exact at_eq _ (by omega)
    · rw [if_neg c]; rfl
  | succ t ih =>
    have ih := ih (by omega)
    refine ⟨permIn_trans _ _ _ _ _ (permIn_mono _ _ _ _ _ _ (Nat.le_refl _) (by omega) (by omega) ih.perm) (swp_permIn _ _ _ _ _ (by omega) (by omega) (by omega) (by omega) (by rw [bubUp_size]; omega)), fun x => ?_⟩
    rw [bubUp, swp_get _ (by rw [bubUp_size]; omega) (by rw [bubUp_size]; omega), ih.get, ih.get, ih.get]
    by_cases e1 : x = a + t + 1
    · subst e1
      rw [if_pos rfl, if_neg (by omega), if_pos (by omega), if_neg (by omega), if_pos (by omega)]; exact at_eq _ (by omega)
    · rw [if_neg e1]
      by_cases e2 : x = a + t
      · subst e2
        rw [if_pos rfl, if_neg (by omega), if_neg (by omega), if_pos (by omega)]; exact at_eq _ (by omega)
      · rw [if_neg e2]
        by_cases c1 : a ≤ x ∧ x < a + (a + 1 + t - (a + 1))
        · rw [if_pos c1, if_pos (by omega)]
        · rw [if_neg c1, if_neg (by omega), if_neg (by omega), if_neg (by omega)]
def bubDown (m : Nat) : Nat → Array α → Array α
  | 0, d => d
  | t + 1, d => swp (bubDown m t d) (m - t) (m - t - 1)
theorem bubDown_size (m t : Nat) (d : Array α) : (bubDown m t d).size = d.size := by
  induction t with
  | zero => rfl
  | succ t ih => rw [bubDown, size_swp, ih]
theorem bubDown_is (m t : Nat) (d : Array α) (h : m < d.size) (ht : t ≤ m) : IsRot (m - t) m (m + 1) d (bubDown m t d) := by
  induction t with
  | zero =>
    refine ⟨permIn_refl _ _ _, fun x => ?_⟩
    by_cases c : m - 0 ≤ x ∧ x < m - 0 + (m + 1 - m)
    · rw [if_pos c]; exact at_eq _ (by omega)
    · rw [if_neg c, if_neg (by omega)]; rfl
  | succ t ih =>
    have ih := ih (by omega)
    refine ⟨permIn_trans _ _ _ _ _ (permIn_mono _ _ _ _ _ _ (by omega) (Nat.le_refl _) (by omega) ih.perm) (swp_permIn _ _ _ _ _ (by omega) (by omega) (by omega) (by omega) (by rw [bubDown_size]; omega)), fun x => ?_⟩
    rw [bubDown, swp_get _ (by rw [bubDown_size]; omega) (by rw [bubDown_size]; omega), ih.get, ih.get, ih.get]
    by_cases e1 : x = m - t - 1
    · subst e1
      rw [if_pos rfl, if_pos (by omega), if_pos (by omega)]; exact at_eq _ (by omega)
    · rw [if_neg e1]
      by_cases e2 : x = m - t
      · subst e2
        rw [if_pos rfl, if_neg (by omega), if_neg (by omega), if_neg (by omega), if_pos (by omega)]; exact at_eq _ (by omega)
      · rw [if_neg e2]
        by_cases c1 : m - t + (m + 1 - m) ≤ x ∧ x < m + 1
        · rw [if_neg (by omega), if_pos c1, if_neg (by omega), if_pos (by omega)]
        · rw [if_neg (by omega), if_neg c1, if_neg (by omega), if_neg (by omega)]
def bsearch (p : Nat → Bool) : Nat → Nat → Nat → Nat
  | 0, s, _ => s
  | f + 1, s, r => if s < r then (if p ((s + r) / 2) then bsearch p f ((s + r) / 2 + 1) r else bsearch p f s ((s + r) / 2)) else s
theorem bsearch_spec (p : Nat → Bool) (f : Nat) : ∀ s r, s ≤ r → r - s < f → s ≤ bsearch p f s r ∧ bsearch p f s r ≤ r ∧ (s < bsearch p f s r → p (bsearch p f s r - 1) = true) ∧ (bsearch p f s r < r → p (bsearch p f s r) = false) := by
  induction f with
  | zero => intro s r h1 h2; omega
  | succ f ih =>
    intro s r h1 h2
    unfold bsearch
    by_cases h : s < r
    · rw [if_pos h]
      by_cases hp : p ((s + r) / 2) = true
      · rw [if_pos hp]
        obtain ⟨a1, a2, a3, a4⟩ := ih ((s + r) / 2 + 1) r (by omega) (by omega)
        refine ⟨by omega, a2, fun _ => ?_, a4⟩
        by_cases e : (s + r) / 2 + 1 < bsearch p f ((s + r) / 2 + 1) r
        · exact a3 e
        · rw [show bsearch p f ((s + r) / 2 + 1) r - 1 = (s + r) / 2 by omega]; exact hp
      · rw [if_neg hp]
        obtain ⟨a1, a2, a3, a4⟩ := ih s ((s + r) / 2) (by omega) (by omega)
        refine ⟨a1, by omega, a3, fun _ => ?_⟩
        by_cases e : bsearch p f s ((s + r) / 2) < (s + r) / 2
        · exact a4 e
        · rw [show bsearch p f s ((s + r) / 2) = (s + r) / 2 by omega]; simpa using hp
    · rw [if_neg h]
      exact ⟨Nat.le_refl _, h1, fun h' => absurd h' (Nat.lt_irrefl _), fun h' => absurd h' h⟩
def bs (p : Nat → Bool) (s r : Nat) : Nat := bsearch p (r - s + 1) s r
theorem bs_spec (p : Nat → Bool) (s r : Nat) (h : s ≤ r) : s ≤ bs p s r ∧ bs p s r ≤ r ∧ (s < bs p s r → p (bs p s r - 1) = true) ∧ (bs p s r < r → p (bs p s r) = false) := bsearch_spec p _ s r h (by omega)
theorem bsearch_fuel (p : Nat → Bool) (f : Nat) : ∀ g s r, r - s < f → r - s < g → bsearch p f s r = bsearch p g s r := by
  induction f with
  | zero => intro g s r h1 h2; omega
  | succ f ih =>
    intro g s r h1 h2
    obtain ⟨g, rfl⟩ : ∃ g', g = g' + 1 := ⟨g - 1, by omega⟩
    unfold bsearch
    by_cases h : s < r
    · rw [if_pos h, if_pos h, ih g _ r (by omega) (by omega), ih g s _ (by omega) (by omega)]
    · rw [if_neg h, if_neg h]
theorem bs_step (p : Nat → Bool) (s r : Nat) (h : s < r) : bs p s r = if p ((s + r) / 2) then bs p ((s + r) / 2 + 1) r else bs p s ((s + r) / 2) := by
  unfold bs
  rw [bsearch, if_pos h, bsearch_fuel p _ (r - ((s + r) / 2 + 1) + 1) _ r (by omega) (by omega), bsearch_fuel p _ ((s + r) / 2 - s + 1) s _ (by omega) (by omega)]
theorem bs_stop (p : Nat → Bool) (s r : Nat) (h : ¬ s < r) : bs p s r = s := by unfold bs; rw [bsearch, if_neg h]
def startAt (lt : α → α → Bool) (a m b : Nat) (d : Array α) : Nat := if (a + b) / 2 < m then bs (fun c => !lt d[(a + b) / 2 + m - 1 - c]! d[c]!) ((a + b) / 2 + m - b) ((a + b) / 2) else bs (fun c => !lt d[(a + b) / 2 + m - 1 - c]! d[c]!) a m
def symMerge (lt : α → α → Bool) : Nat → Nat → Nat → Nat → Array α → Array α
  | 0, _, _, _, d => d
  | f + 1, a, m, b, d =>
    if m - a = 1 then bubUp a (bs (fun h => lt d[h]! d[a]!) m b - 1 - a) d
    else if b - m = 1 then bubDown m (m - bs (fun h => !lt d[m]! d[h]!) a m) d
    else
      let mid := (a + b) / 2
      let st := startAt lt a m b d
      let en := mid + m - st
      let d1 := if st < m ∧ m < en then rotate st m en d else d
      let d2 := if a < st ∧ st < mid then symMerge lt f a st mid d1 else d1
      if mid < en ∧ en < b then symMerge lt f mid en b d2 else d2
def Across (lt lx : α → α → Bool) (a m b : Nat) (d : Array α) : Prop := ∀ i j, a ≤ i → i < m → m ≤ j → j < b → lt d[j]! d[i]! = lx d[j]! d[i]!
theorem rot_id (lo mid hi : Nat) (d : Array α) (h : lo = mid ∨ mid = hi) (h1 : lo ≤ mid) (h2 : mid ≤ hi) : IsRot lo mid hi d d := by
  refine ⟨permIn_refl _ _ _, fun x => ?_⟩
  by_cases c1 : lo ≤ x ∧ x < lo + (hi - mid)
  · rw [if_pos c1]; exact at_eq _ (by omega)
  · rw [if_neg c1]
    by_cases c2 : lo + (hi - mid) ≤ x ∧ x < hi
    · rw [if_pos c2]; exact at_eq _ (by omega)
    · rw [if_neg c2]
section
variable {lx : α → α → Bool} (hS : SWO lx)
include hS
omit [Inhabited α] in
theorem le_trans' {x y z : α} (h1 : lx y x = false) (h2 : lx z y = false) : lx z x = false := hS.ntrans _ _ _ h2 h1
theorem sorted_le {a b : Nat} {d : Array α} (h : SortedIn lx a b d) {i j : Nat} (h1 : a ≤ i) (h2 : i ≤ j) (h3 : j < b) : lx d[j]! d[i]! = false := by
  rcases Nat.lt_or_ge i j with h' | h'
  · exact h i j h1 h' h3
  · obtain rfl : i = j := by omega
    exact hS.irrefl _
theorem symMerge_ok (lt : α → α → Bool) (f : Nat) : ∀ (a m b : Nat) (d : Array α), a < m → m < b → b ≤ d.size → b - a ≤ f → SortedIn lx a m d → SortedIn lx m b d → Across lt lx a m b d →
    PermIn a b d (symMerge lt f a m b d) ∧ SortedIn lx a b (symMerge lt f a m b d) := by
  induction f with
  | zero => intro a m b d h1 h2 h3 h4; omega
  | succ f ih =>
    intro a m b d h1 h2 h3 h4 hl hr hc
    unfold symMerge
    by_cases e1 : m - a = 1
    · rw [if_pos e1]
      obtain rfl : m = a + 1 := by omega
      obtain ⟨i1, i2, i3, i4⟩ := bs_spec (fun h => lt d[h]! d[a]!) (a + 1) b (by omega)
      generalize bs (fun h => lt d[h]! d[a]!) (a + 1) b = i at i1 i2 i3 i4
      have h := bubUp_is a (i - 1 - a) d (by omega)
      rw [show a + 1 + (i - 1 - a) = i by omega] at h
      refine ⟨permIn_mono _ _ _ _ _ _ (Nat.le_refl _) i2 h3 h.perm, fun p q hp hpq hq => ?_⟩
      rw [h.get, h.get]
      by_cases q1 : q < i - 1
      · rw [if_pos (by omega), if_pos (by omega)]
        exact hr _ _ (by omega) (by omega) (by omega)
      · by_cases q2 : q = i - 1
        · subst q2
          rw [if_neg (by omega), if_pos (by omega), if_pos (by omega), show i - 1 - (i - (a + 1)) = a by omega]
          refine le_trans' hS (y := d[i - 1]!) (sorted_le hS hr (by omega) (by omega) (by omega)) (hS.asymmA ?_)
          rw [← hc a (i - 1) (Nat.le_refl _) (by omega) (by omega) (by omega)]
          exact i3 (by omega)
        · rw [if_neg (by omega), if_neg (by omega)]
          have hqa : lx d[q]! d[a]! = false := by
            by_cases e : i < b
            · refine le_trans' hS (y := d[i]!) ?_ (sorted_le hS hr (by omega) (by omega) (by omega))
              rw [← hc a i (Nat.le_refl _) (by omega) (by omega) (by omega)]
              exact i4 e
            · omega
          by_cases p1 : p < i - 1
          · rw [if_pos (by omega)]
            exact hr _ _ (by omega) (by omega) (by omega)
          · by_cases p2 : p = i - 1
            · subst p2
              rw [if_neg (by omega), if_pos (by omega), show i - 1 - (i - (a + 1)) = a by omega]
              exact hqa
            · rw [if_neg (by omega), if_neg (by omega)]
              exact hr _ _ (by omega) (by omega) (by omega)
    · rw [if_neg e1]
      by_cases e2 : b - m = 1
      · rw [if_pos e2]
        obtain rfl : b = m + 1 := by omega
        obtain ⟨i1, i2, i3, i4⟩ := bs_spec (fun h => !lt d[m]! d[h]!) a m (by omega)
        generalize bs (fun h => !lt d[m]! d[h]!) a m = i at i1 i2 i3 i4
        have h := bubDown_is m (m - i) d (by omega) (by omega)
        rw [show m - (m - i) = i by omega] at h
        refine ⟨permIn_mono _ _ _ _ _ _ i1 (Nat.le_refl _) h3 h.perm, fun p q hp hpq hq => ?_⟩
        rw [h.get, h.get]
        by_cases p1 : p < i
        · rw [if_neg (c := i ≤ p ∧ p < i + (m + 1 - m)) (by omega), if_neg (c := i + (m + 1 - m) ≤ p ∧ p < m + 1) (by omega)]
          have hpm : lx d[m]! d[p]! = false := by
            have := i3 (by omega)
            have hh := hc (i - 1) m (by omega) (by omega) (Nat.le_refl _) (by omega)
            refine le_trans' hS (y := d[i - 1]!) (sorted_le hS hl hp (by omega) (by omega)) ?_
            rw [← hh]
            simpa using this
          by_cases q1 : q < i
          · rw [if_neg (by omega), if_neg (by omega)]
            exact hl _ _ hp hpq (by omega)
          · by_cases q2 : q = i
            · subst q2
              rw [if_pos (by omega), show q + (m - q) = m by omega]
              exact hpm
            · rw [if_neg (by omega), if_pos (by omega)]
              exact sorted_le hS hl hp (by omega) (by omega)
        · by_cases p2 : p = i
          · subst p2
            rw [if_pos (c := p ≤ p ∧ p < p + (m + 1 - m)) (by omega), if_neg (by omega), if_pos (by omega), show p + (m - p) = m by omega]
            have := i4 (by omega)
            have hh := hc p m (by omega) (by omega) (Nat.le_refl _) (by omega)
            refine le_trans' hS (y := d[p]!) (hS.asymmA ?_) (sorted_le hS hl (by omega) (by omega) (by omega))
            rw [← hh]
            simpa using this
          · rw [if_neg (by omega), if_pos (by omega), if_neg (by omega), if_pos (by omega)]
            exact hl _ _ (by omega) (by omega) (by omega)
      · rw [if_neg e2]
        dsimp only
        obtain ⟨mid, hmid⟩ : ∃ mid, mid = (a + b) / 2 := ⟨_, rfl⟩
        rw [← hmid]
        have hst : ∃ s0 r0, startAt lt a m b d = bs (fun c => !lt d[mid + m - 1 - c]! d[c]!) s0 r0 ∧ s0 ≤ r0 ∧ ((m > mid ∧ s0 = mid + m - b ∧ r0 = mid) ∨ (m ≤ mid ∧ s0 = a ∧ r0 = m)) := by
          unfold startAt
          rw [← hmid]
          by_cases e : mid < m
          · exact ⟨_, _, if_pos e, by omega, Or.inl ⟨e, rfl, rfl⟩⟩
          · exact ⟨_, _, if_neg e, by omega, Or.inr ⟨by omega, rfl, rfl⟩⟩
        obtain ⟨s0, r0, hst, hsr, hcase⟩ := hst
        rw [hst]
        obtain ⟨i1, i2, i3, i4⟩ := bs_spec (fun c => !lt d[mid + m - 1 - c]! d[c]!) s0 r0 hsr
        generalize bs (fun c => !lt d[mid + m - 1 - c]! d[c]!) s0 r0 = st at i1 i2 i3 i4
        obtain ⟨en, hen⟩ : ∃ en, en = mid + m - st := ⟨_, rfl⟩
        rw [← hen]
        have b1 : a ≤ st ∧ st ≤ m ∧ st ≤ mid ∧ m ≤ en ∧ mid ≤ en ∧ en ≤ b := by omega
        have hrot : IsRot st m en d (if st < m ∧ m < en then rotate st m en d else d) := by
          split
          · rename_i h; exact rotate_is _ _ _ _ h.1 h.2 (by omega)
          · rename_i h; exact rot_id _ _ _ _ (by omega) (by omega) (by omega)
        generalize (if st < m ∧ m < en then rotate st m en d else d) = d1 at hrot
        have hs1 : d1.size = d.size := hrot.perm.1
        have g1 : ∀ x, x < st → d1[x]! = d[x]! := fun x hx => by rw [hrot.get, if_neg (by omega), if_neg (by omega)]
        have g2 : ∀ x, st ≤ x → x < mid → d1[x]! = d[x + (m - st)]! := fun x h h' => by rw [hrot.get, if_pos (by omega)]
        have g3 : ∀ x, mid ≤ x → x < en → d1[x]! = d[x - (en - m)]! := fun x h h' => by rw [hrot.get, if_neg (by omega), if_pos (by omega)]
        have g4 : ∀ x, en ≤ x → d1[x]! = d[x]! := fun x h => by rw [hrot.get, if_neg (by omega), if_neg (by omega)]
        clear hst
        -- the first half is no greater than the second one
        have cross : ∀ x y, a ≤ x → x < mid → mid ≤ y → y < b → lx d1[y]! d1[x]! = false := by
          intro x y hx1 hx2 hy1 hy2
          by_cases cx : x < st
          · rw [g1 x cx]
            by_cases cy : y < en
            · rw [g3 y hy1 cy]
              exact sorted_le hS hl hx1 (by omega) (by omega)
            · rw [g4 y (by omega)]
              have h := i3 (by omega)
              have hh := hc (st - 1) en (by omega) (by omega) (by omega) (by omega)
              try dsimp only at h
              rw [show mid + m - 1 - (st - 1) = en by omega] at h
              refine le_trans' hS (y := d[st - 1]!) (sorted_le hS hl hx1 (by omega) (by omega)) ?_
              refine le_trans' hS (y := d[en]!) ?_ (sorted_le hS hr (by omega) (by omega) hy2)
              rw [← hh]
              simpa using h
          · rw [g2 x (by omega) hx2]
            by_cases cy : y < en
            · rw [g3 y hy1 cy]
              have h := i4 (by omega)
              have hh := hc st (en - 1) (by omega) (by omega) (by omega) (by omega)
              try dsimp only at h
              rw [show mid + m - 1 - st = en - 1 by omega] at h
              refine le_trans' hS (y := d[en - 1]!) (sorted_le hS hr (by omega) (by omega) (by omega)) ?_
              refine le_trans' hS (y := d[st]!) (hS.asymmA ?_) (sorted_le hS hl (by omega) (by omega) (by omega))
              rw [← hh]
              simpa using h
            · rw [g4 y (by omega)]
              exact sorted_le hS hr (by omega) (by omega) hy2
        have A1 : PermIn a mid d1 (if a < st ∧ st < mid then symMerge lt f a st mid d1 else d1) ∧ SortedIn lx a mid (if a < st ∧ st < mid then symMerge lt f a st mid d1 else d1) := by
          split
          · rename_i h
            refine ih a st mid d1 h.1 h.2 (by omega) (by omega) (fun p q hp hpq hq => ?_) (fun p q hp hpq hq => ?_) (fun p q hp hpm hmq hq => ?_)
            · rw [g1 p (by omega), g1 q hq]; exact hl _ _ hp hpq (by omega)
            · rw [g2 p hp (by omega), g2 q (by omega) hq]; exact hr _ _ (by omega) (by omega) (by omega)
            · rw [g1 p hpm, g2 q hmq hq]; exact hc _ _ hp (by omega) (by omega) (by omega)
          · rename_i h
            refine ⟨permIn_refl _ _ _, fun p q hp hpq hq => ?_⟩
            by_cases e : a < st
            · rw [g1 p (by omega), g1 q (by omega)]; exact hl _ _ hp hpq (by omega)
            · rw [g2 p (by omega) (by omega), g2 q (by omega) hq]; exact hr _ _ (by omega) (by omega) (by omega)
        obtain ⟨P1, S1⟩ := A1
        generalize (if a < st ∧ st < mid then symMerge lt f a st mid d1 else d1) = d2 at P1 S1
        have hs2 : d2.size = d1.size := P1.1
        have k2 : ∀ x, mid ≤ x → d2[x]! = d1[x]! := fun x hx => P1.2.1 x (Or.inr hx)
        have A2 : PermIn mid b d2 (if mid < en ∧ en < b then symMerge lt f mid en b d2 else d2) ∧ SortedIn lx mid b (if mid < en ∧ en < b then symMerge lt f mid en b d2 else d2) := by
          split
          · rename_i h
            refine ih mid en b d2 h.1 h.2 (by omega) (by omega) (fun p q hp hpq hq => ?_) (fun p q hp hpq hq => ?_) (fun p q hp hpm hmq hq => ?_)
            · rw [k2 p (by omega), k2 q (by omega), g3 p (by omega) (by omega), g3 q (by omega) hq]; exact hl _ _ (by omega) (by omega) (by omega)
            · rw [k2 p (by omega), k2 q (by omega), g4 p (by omega), g4 q (by omega)]; exact hr _ _ (by omega) (by omega) (by omega)
            · rw [k2 p (by omega), k2 q (by omega), g3 p (by omega) (by omega), g4 q (by omega)]; exact hc _ _ (by omega) (by omega) (by omega) (by omega)
          · rename_i h
            refine ⟨permIn_refl _ _ _, fun p q hp hpq hq => ?_⟩
            rw [k2 p (by omega), k2 q (by omega)]
            by_cases e : en < b
            · rw [g4 p (by omega), g4 q (by omega)]; exact hr _ _ (by omega) (by omega) (by omega)
            · rw [g3 p (by omega) (by omega), g3 q (by omega) (by omega)]; exact hl _ _ (by omega) (by omega) (by omega)
        obtain ⟨P2, S2⟩ := A2
        generalize (if mid < en ∧ en < b then symMerge lt f mid en b d2 else d2) = d3 at P2 S2
        have k3 : ∀ x, x < mid → d3[x]! = d2[x]! := fun x hx => P2.2.1 x (Or.inl hx)
        refine ⟨permIn_trans _ _ _ _ _ (permIn_mono _ _ _ _ _ _ (by omega) (by omega) h3 hrot.perm) (permIn_trans _ _ _ _ _ (permIn_mono _ _ _ _ _ _ (Nat.le_refl _) (by omega) (by omega) P1) (permIn_mono _ _ _ _ _ _ (by omega) (Nat.le_refl _) (by omega) P2)), fun p q hp hpq hq => ?_⟩
        by_cases cq : q < mid
        · rw [k3 p (by omega), k3 q cq]; exact S1 _ _ hp hpq cq
        · by_cases cp : p < mid
          · rw [k3 p cp]
            have f1 : ∀ x, a ≤ x → x < mid → ∀ y, mid ≤ y → y < b → lx d1[y]! d2[x]! = false :=
              permIn_all d1 d2 a mid (fun v => ∀ y, mid ≤ y → y < b → lx d1[y]! v = false) (by omega) P1 (fun x h1 h2 y h3 h4 => cross x y h1 h2 h3 h4)
            exact permIn_all d2 d3 mid b (fun v => lx v d2[p]! = false) (by omega) P2 (fun y h1 h2 => by rw [k2 y h1]; exact f1 p hp cp y h1 h2) q (by omega) hq
          · exact S2 _ _ (by omega) hpq hq
end
theorem insInner_perm (lt : α → α → Bool) (a b : Nat) : ∀ (j : Nat) (d : Array α), a ≤ j → j < b → b ≤ d.size → PermIn a b d (insInner lt a j d)
  | 0, d, _, _, _ => by unfold insInner; exact permIn_refl _ _ _
  | j + 1, d, h1, h2, h3 => by
    unfold insInner
    split
    · rename_i hc
      simp only [Bool.and_eq_true, decide_eq_true_eq] at hc
      exact permIn_trans _ _ _ _ _ (swp_permIn d a b (j + 1) j (by omega) (by omega) (by omega) (by omega) h3) (insInner_perm lt a b j _ (by omega) (by omega) (by rw [size_swp]; exact h3))
    · exact permIn_refl _ _ _
theorem insInner_eq (lt lx : α → α → Bool) (a : Nat) : ∀ (j : Nat) (d : Array α), j < d.size → (∀ k, a ≤ k → k < j → lt d[j]! d[k]! = lx d[j]! d[k]!) → insInner lt a j d = insInner lx a j d
  | 0, d, _, _ => rfl
  | j + 1, d, hs, h => by
    unfold insInner
    by_cases hj : j + 1 > a
    · rw [h j (by omega) (by omega), insInner_eq lt lx a j _ (by rw [size_swp]; omega) fun k h1 h2 => ?_]
      rw [swp_get d hs (by omega), swp_get d hs (by omega), if_pos rfl, if_neg (by omega), if_neg (by omega)]
      exact h k h1 (by omega)
    · simp [hj]
theorem insOuter_eq (lt lx : α → α → Bool) (a b : Nat) : ∀ (n i : Nat) (d : Array α), b - i = n → a < i → b ≤ d.size → (∀ k j, a ≤ k → k < j → i ≤ j → j < b → lt d[j]! d[k]! = lx d[j]! d[k]!) → insOuter lt a b i d = insOuter lx a b i d
  | 0, i, d, hn, _, _, _ => by rw [insOuter, if_neg (by omega), insOuter, if_neg (by omega)]
  | n + 1, i, d, hn, hai, hb, h => by
    have e1 : insOuter lt a b i d = insOuter lt a b (i + 1) (insInner lt a i d) := by rw [insOuter, if_pos (by omega)]
    have e2 : insOuter lx a b i d = insOuter lx a b (i + 1) (insInner lx a i d) := by rw [insOuter, if_pos (by omega)]
    rw [e1, e2, insInner_eq lt lx a i d (by omega) fun k h1 h2 => h k i h1 h2 (Nat.le_refl _) (by omega)]
    have hp := insInner_perm lx a (i + 1) i d (by omega) (by omega) (by omega)
    refine insOuter_eq lt lx a b n (i + 1) _ (by omega) (by omega) (by rw [hp.1]; exact hb) fun k j h1 h2 h3 h4 => ?_
    rw [hp.2.1 j (by omega)]
    by_cases hk : k < i + 1
    · exact permIn_all d _ a (i + 1) (fun v => lt d[j]! v = lx d[j]! v) (by omega) hp (fun q hq1 hq2 => h q j hq1 (by omega) (by omega) h4) k h1 hk
    · rw [hp.2.1 k (by omega)]
      exact h k j h1 h2 (by omega) h4
theorem insertion_ok {lx : α → α → Bool} (hS : SWO lx) (lt : α → α → Bool) (d : Array α) (a b : Nat) (hab : a ≤ b) (hb : b ≤ d.size) (h : ∀ k j, a ≤ k → k < j → j < b → lt d[j]! d[k]! = lx d[j]! d[k]!) :
    PermIn a b d (insertionSort lt d a b) ∧ SortedIn lx a b (insertionSort lt d a b) := by
  have e : insertionSort lt d a b = insertionSort lx d a b := insOuter_eq lt lx a b _ (a + 1) d rfl (by omega) hb fun k j h1 h2 h3 h4 => h k j h1 h2 h4
  rw [e]
  exact insertionSort_holds hS d a b hab hb
def insBlocks (lt : α → α → Bool) (n : Nat) : Nat → Nat → Array α → Array α
  | 0, _, d => d
  | f + 1, a, d => if a + 20 ≤ n then insBlocks lt n f (a + 20) (insertionSort lt d a (a + 20)) else insertionSort lt d a n
def mergeRow (lt : α → α → Bool) (s n : Nat) : Nat → Nat → Array α → Array α
  | 0, _, d => d
  | f + 1, a, d => if a + 2 * s ≤ n then mergeRow lt s n f (a + 2 * s) (symMerge lt n a (a + s) (a + 2 * s) d) else if a + s < n then symMerge lt n a (a + s) n d else d
def mergeRows (lt : α → α → Bool) (n : Nat) : Nat → Nat → Array α → Array α
  | 0, _, d => d
  | f + 1, s, d => if s < n then mergeRows lt n f (2 * s) (mergeRow lt s n (n + 1) 0 d) else d
def stable (lt : α → α → Bool) (n : Nat) (d : Array α) : Array α := mergeRows lt n (n + 1) 20 (insBlocks lt n (n + 1) 0 d)
def Ag (lt lx : α → α → Bool) (n : Nat) (d : Array α) (c : Nat) : Prop := ∀ i j, i < c → c ≤ j → j < n → lt d[j]! d[i]! = lx d[j]! d[i]!
theorem Ag.perm {lt lx : α → α → Bool} {n : Nat} {d d' : Array α} {c lo hi : Nat} (h : Ag lt lx n d c) (hn : n ≤ d.size) (hh : hi ≤ n) (hp : PermIn lo hi d d') (hc : c ≤ lo ∨ hi ≤ c) : Ag lt lx n d' c := by
  intro i j hi' hj hjn
  rcases hc with hc | hc
  · rw [hp.2.1 i (by omega)]
    by_cases e : lo ≤ j ∧ j < hi
    · exact permIn_all d d' lo hi (fun v => lt v d[i]! = lx v d[i]!) (by omega) hp (fun q h1 h2 => h i q hi' (by omega) (by omega)) j e.1 e.2
    · rw [hp.2.1 j (by omega)]
      exact h i j hi' hj hjn
  · rw [hp.2.1 j (by omega)]
    by_cases e : lo ≤ i ∧ i < hi
    · exact permIn_all d d' lo hi (fun v => lt d[j]! v = lx d[j]! v) (by omega) hp (fun q h1 h2 => h q j (by omega) hj hjn) i e.1 e.2
    · rw [hp.2.1 i (by omega)]
      exact h i j hi' hj hjn
theorem dvd_gap {k c a : Nat} (h1 : k ∣ c) (h2 : k ∣ a) (h : c < a) : c + k ≤ a := by
  have := Nat.le_of_dvd (by omega) (Nat.dvd_sub h2 h1)
  omega
theorem sorted_keep {lx : α → α → Bool} {a b lo hi : Nat} {d d' : Array α} (hp : PermIn lo hi d d') (h : SortedIn lx a b d) (hc : b ≤ lo ∨ hi ≤ a) : SortedIn lx a b d' := by
  intro i j h1 h2 h3
  rw [hp.2.1 i (by omega), hp.2.1 j (by omega)]
  exact h i j h1 h2 h3
section
variable {lx : α → α → Bool} (hS : SWO lx) (lt : α → α → Bool) (n : Nat)
include hS
theorem mergeRow_ok (s : Nat) (hs : 0 < s) (f : Nat) : ∀ (a : Nat) (d : Array α), n - a < f → 2 * s ∣ a → a ≤ n → n ≤ d.size →
    (∀ c, a ≤ c → s ∣ c → c < n → SortedIn lx c (min (c + s) n) d) → (∀ c, 2 * s ∣ c → c + 2 * s ≤ a → SortedIn lx c (c + 2 * s) d) → (∀ c, s ∣ c → a ≤ c → Ag lt lx n d c) → (∀ c, 2 * s ∣ c → Ag lt lx n d c) →
    PermIn 0 n d (mergeRow lt s n f a d) ∧ (∀ c, 2 * s ∣ c → c < n → SortedIn lx c (min (c + 2 * s) n) (mergeRow lt s n f a d)) ∧ ∀ c, 2 * s ∣ c → Ag lt lx n (mergeRow lt s n f a d) c := by
  induction f with
  | zero => intro a d h; omega
  | succ f ih =>
    intro a d hf hda han hn A1 A2 A3 A4
    have hsa : s ∣ a := Nat.dvd_trans (Nat.dvd_mul_left s 2) hda
    have hss : s ∣ a + s := Nat.dvd_add hsa (Nat.dvd_refl s)
    unfold mergeRow
    by_cases c1 : a + 2 * s ≤ n
    · rw [if_pos c1]
      have hl := A1 a (Nat.le_refl _) hsa (by omega)
      have hr := A1 (a + s) (by omega) hss (by omega)
      rw [Nat.min_eq_left (by omega)] at hl hr
      rw [show a + s + s = a + 2 * s by omega] at hr
      have hm := symMerge_ok hS lt n a (a + s) (a + 2 * s) d (by omega) (by omega) (by omega) (by omega) hl hr (fun i j h1 h2 h3 h4 => A3 (a + s) hss (by omega) i j h2 h3 (by omega))
      generalize symMerge lt n a (a + s) (a + 2 * s) d = d1 at hm
      obtain ⟨hp, hm⟩ := hm
      have hd2 : 2 * s ∣ a + 2 * s := Nat.dvd_add hda (Nat.dvd_refl _)
      have h := ih (a + 2 * s) d1 (by omega) hd2 c1 (by rw [hp.1]; exact hn) (fun c h1 h2 h3 => sorted_keep hp (A1 c (by omega) h2 h3) (.inr h1)) (fun c h1 h2 => by
        by_cases e : c = a
        · subst e; exact hm
        · exact sorted_keep hp (A2 c h1 (dvd_gap h1 hda (by omega))) (.inl (dvd_gap h1 hda (by omega)))) (fun c h1 h2 => (A3 c h1 (by omega)).perm hn c1 hp (.inr h2)) (fun c h1 => (A4 c h1).perm hn c1 hp (by
        by_cases e : c ≤ a
        · exact .inl e
        · exact .inr (dvd_gap hda h1 (by omega))))
      exact ⟨permIn_trans _ _ _ _ _ (permIn_mono _ _ _ _ _ _ (Nat.zero_le _) c1 hn hp) h.1, h.2⟩
    · rw [if_neg c1]
      by_cases c2 : a + s < n
      · rw [if_pos c2]
        have hl := A1 a (Nat.le_refl _) hsa (by omega)
        have hr := A1 (a + s) (by omega) hss (by omega)
        rw [Nat.min_eq_left (by omega)] at hl
        rw [Nat.min_eq_right (by omega)] at hr
        have hm := symMerge_ok hS lt n a (a + s) n d (by omega) (by omega) hn (by omega) hl hr (fun i j h1 h2 h3 h4 => A3 (a + s) hss (by omega) i j h2 h3 h4)
        generalize symMerge lt n a (a + s) n d = d1 at hm
        obtain ⟨hp, hm⟩ := hm
        refine ⟨permIn_mono _ _ _ _ _ _ (Nat.zero_le _) (Nat.le_refl _) hn hp, fun c h1 h2 => ?_, fun c h1 => ?_⟩
        · rcases Nat.lt_trichotomy c a with e | e | e
          · have := dvd_gap h1 hda e
            rw [Nat.min_eq_left (by omega)]
            exact sorted_keep hp (A2 c h1 this) (.inl this)
          · subst e
            rw [Nat.min_eq_right (by omega)]
            exact hm
          · have := dvd_gap hda h1 e
            omega
        · by_cases e : c ≤ a
          · exact (A4 c h1).perm hn (Nat.le_refl _) hp (.inl e)
          · have := dvd_gap hda h1 (by omega)
            intro i j h3 h4 h5
            omega
      · rw [if_neg c2]
        refine ⟨permIn_refl _ _ _, fun c h1 h2 => ?_, A4⟩
        rcases Nat.lt_trichotomy c a with e | e | e
        · have := dvd_gap h1 hda e
          rw [Nat.min_eq_left (by omega)]
          exact A2 c h1 this
        · subst e
          have := A1 c (Nat.le_refl _) hsa h2
          rw [Nat.min_eq_right (by omega)] at this ⊢
          exact this
        · have := dvd_gap hda h1 e
          omega
theorem mergeRows_ok (f : Nat) : ∀ (s : Nat) (d : Array α), 0 < s → n - s < f → n ≤ d.size → (∀ c, s ∣ c → c < n → SortedIn lx c (min (c + s) n) d) → (∀ c, s ∣ c → Ag lt lx n d c) → PermIn 0 n d (mergeRows lt n f s d) ∧ SortedIn lx 0 n (mergeRows lt n f s d) := by
  induction f with
  | zero => intro s d h1 h2; omega
  | succ f ih =>
    intro s d hs hf hn A1 A2
    unfold mergeRows
    by_cases c : s < n
    · rw [if_pos c]
      have h := mergeRow_ok hS lt n s hs (n + 1) 0 d (by omega) (Nat.dvd_zero _) (Nat.zero_le _) hn (fun c _ h2 h3 => A1 c h2 h3) (fun c h1 h2 => by omega) (fun c h1 _ => A2 c h1) (fun c h1 => A2 c (Nat.dvd_trans (Nat.dvd_mul_left s 2) h1))
      generalize mergeRow lt s n (n + 1) 0 d = d1 at h
      have h2 := ih (2 * s) d1 (by omega) (by omega) (by rw [h.1.1]; exact hn) h.2.1 h.2.2
      exact ⟨permIn_trans _ _ _ _ _ h.1 h2.1, h2.2⟩
    · rw [if_neg c]
      refine ⟨permIn_refl _ _ _, ?_⟩
      by_cases h0 : 0 < n
      · have := A1 0 (Nat.dvd_zero _) h0
        rwa [Nat.zero_add, Nat.min_eq_right (by omega)] at this
      · intro i j h1 h2 h3; omega
theorem insBlocks_ok (f : Nat) : ∀ (a : Nat) (d : Array α), n - a < f → 20 ∣ a → a ≤ n → n ≤ d.size → (∀ k j, a ≤ k → k < j → j < n → lt d[j]! d[k]! = lx d[j]! d[k]!) → (∀ c, 20 ∣ c → c + 20 ≤ a → SortedIn lx c (c + 20) d) → (∀ c, 20 ∣ c → Ag lt lx n d c) →
    PermIn 0 n d (insBlocks lt n f a d) ∧ (∀ c, 20 ∣ c → c < n → SortedIn lx c (min (c + 20) n) (insBlocks lt n f a d)) ∧ ∀ c, 20 ∣ c → Ag lt lx n (insBlocks lt n f a d) c := by
  induction f with
  | zero => intro a d h; omega
  | succ f ih =>
    intro a d hf hda han hn H A2 A4
    unfold insBlocks
    by_cases c1 : a + 20 ≤ n
    · rw [if_pos c1]
      have hm := insertion_ok hS lt d a (a + 20) (by omega) (by omega) (fun k j h1 h2 h3 => H k j h1 h2 (by omega))
      generalize insertionSort lt d a (a + 20) = d1 at hm
      obtain ⟨hp, hm⟩ := hm
      have hd2 : 20 ∣ a + 20 := Nat.dvd_add hda (Nat.dvd_refl _)
      have h := ih (a + 20) d1 (by omega) hd2 c1 (by rw [hp.1]; exact hn) (fun k j h1 h2 h3 => by rw [hp.2.1 k (by omega), hp.2.1 j (by omega)]; exact H k j (by omega) h2 h3) (fun c h1 h2 => by
        by_cases e : c = a
        · subst e; exact hm
        · exact sorted_keep hp (A2 c h1 (dvd_gap h1 hda (by omega))) (.inl (dvd_gap h1 hda (by omega)))) (fun c h1 => (A4 c h1).perm hn c1 hp (by
        by_cases e : c ≤ a
        · exact .inl e
        · exact .inr (dvd_gap hda h1 (by omega))))
      exact ⟨permIn_trans _ _ _ _ _ (permIn_mono _ _ _ _ _ _ (Nat.zero_le _) c1 hn hp) h.1, h.2⟩
    · rw [if_neg c1]
      have hm := insertion_ok hS lt d a n (by omega) (by omega) (fun k j h1 h2 h3 => H k j h1 h2 h3)
      generalize insertionSort lt d a n = d1 at hm
      obtain ⟨hp, hm⟩ := hm
      refine ⟨permIn_mono _ _ _ _ _ _ (Nat.zero_le _) (Nat.le_refl _) hn hp, fun c h1 h2 => ?_, fun c h1 => ?_⟩
      · rcases Nat.lt_trichotomy c a with e | e | e
        · have := dvd_gap h1 hda e
          rw [Nat.min_eq_left (by omega)]
          exact sorted_keep hp (A2 c h1 this) (.inl this)
        · subst e
          rw [Nat.min_eq_right (by omega)]
          exact hm
        · have := dvd_gap hda h1 e
          omega
      · by_cases e : c ≤ a
        · exact (A4 c h1).perm hn (Nat.le_refl _) hp (.inl e)
        · have := dvd_gap hda h1 (by omega)
          intro i j h3 h4 h5
          omega
theorem stable_ok (d : Array α) (hn : n ≤ d.size) (h : ∀ k j, k < j → j < n → lt d[j]! d[k]! = lx d[j]! d[k]!) : PermIn 0 n d (stable lt n d) ∧ SortedIn lx 0 n (stable lt n d) := by
  unfold stable
  have h1 := insBlocks_ok hS lt n (n + 1) 0 d (by omega) (Nat.dvd_zero _) (Nat.zero_le _) hn (fun k j _ h2 h3 => h k j h2 h3) (fun c h1 h2 => by omega) (fun c _ i j h1 h2 h3 => h i j (by omega) h3)
  generalize insBlocks lt n (n + 1) 0 d = d1 at h1
  have h2 := mergeRows_ok hS lt n (n + 1) 20 d1 (by omega) (by omega) (by rw [h1.1.1]; exact hn) h1.2.1 h1.2.2
  exact ⟨permIn_trans _ _ _ _ _ h1.1 h2.1, h2.2⟩
end
end Go.Proofs.Ytohhobcipfmkbaa.UStable
