/- Merged of own texts: UJoin, UMark. -/
import Derived.Test.YtfkgjoflekemaaaUBase
/-! Plain: which places are next, which join, and the forms, by definition and in one go: they are the same. No Go and no memory. -/
namespace Go.Proofs.Ytfkgjoflekemaaa.UJoin
open Go.RowKit Go.Proofs.YtfkgjoflekemaaaW.PrintWords Go.Proofs.Ytfkgjoflekemaaa.U
def shapesB (t : Int) : Bool := t == 3 || t == 2 || t == 4
def formOf (b a : Bool) : Int := if b && a then 4 else if b then 2 else if a then 3 else 1
def behindB (t : Int) : Bool := t == 3 || t == 4 || t == 5
def aheadB (t : Int) : Bool := t == 3 || t == 2 || t == 5
def outAfter (types out : List Int) (last : Int) (bef aft : Bool) : List Int := if 0 ≤ last ∧ shapesB (rd types last) = true then out.set last.toNat (formOf bef aft) else out
def meetsB (types : List Int) (last t : Int) : Bool := decide (0 ≤ last) && behindB (rd types last) && aheadB t
def stepF (types : List Int) (i : Nat) (s : Int × Bool × List Int) : Int × Bool × List Int :=
  if rd types i = 1 then s else ((i : Int), meetsB types s.1 (rd types i), outAfter types s.2.2 s.1 s.2.1 (meetsB types s.1 (rd types i)))
def jrun (types : List Int) : Nat → Int × Bool × List Int
  | 0 => (-1, false, List.replicate types.length 0)
  | k + 1 => stepF types k (jrun types k)
theorem jrun_last (types : List Int) (k : Nat) : -1 ≤ (jrun types k).1 ∧ (jrun types k).1 < k := by
  induction k with
  | zero => simp [jrun]
  | succ k ih =>
    unfold jrun stepF
    split
    · omega
    · simp; omega
def formsOf (types : List Int) : List Int := outAfter types (jrun types types.length).2.2 (jrun types types.length).1 (jrun types types.length).2.1 false

/-- the first place from k on, of n, that is not passed over -/
def up (types : List Int) : Nat → Nat → Int
  | _, 0 => -1
  | k, n + 1 => if rd types k = 1 then up types (k + 1) n else k
/-- the last place ahead of k that is not passed over -/
def down (types : List Int) : Nat → Int
  | 0 => -1
  | k + 1 => if rd types k = 1 then down types k else k
def next (types : List Int) (i : Nat) : Int := up types (i + 1) (types.length - (i + 1))
def aheadI (types : List Int) (i : Int) : Int := if 0 ≤ i ∧ i < types.length then down types i.toNat else -1
def behindI (types : List Int) (i : Int) : Int := if 0 ≤ i ∧ i < types.length then next types i.toNat else -1
def joinedI (types : List Int) (i : Int) : Bool := decide (0 ≤ behindI types i) && behindB (rd types i) && aheadB (rd types (behindI types i))
def overI (types : List Int) (i : Int) : Bool := decide (0 ≤ i ∧ i < types.length) && decide (rd types i = 1) && joinedI types (aheadI types i)
def fm (types : List Int) (i : Nat) : Int := if shapesB (rd types i) = true then formOf (joinedI types (aheadI types i)) (joinedI types i) else 0

theorem down_range (types : List Int) (k : Nat) : -1 ≤ down types k ∧ down types k < k := by
  induction k with
  | zero => simp [down]
  | succ k ih =>
    unfold down
    split <;> omega
theorem up_range (types : List Int) (n : Nat) : ∀ k, up types k n = -1 ∨ ((k : Int) ≤ up types k n ∧ up types k n < k + n) := by
  induction n with
  | zero => intro k; exact .inl rfl
  | succ n ih =>
    intro k
    unfold up
    split
    · rcases ih (k + 1) with h | h
      · exact .inl h
      · right; omega
    · right; omega
theorem up_not (types : List Int) (n : Nat) : ∀ k, 0 ≤ up types k n → rd types (up types k n) ≠ 1 := by
  induction n with
  | zero => intro k h; simp [up] at h
  | succ n ih =>
    intro k h
    unfold up at h ⊢
    split
    · rename_i hc; rw [if_pos hc] at h; exact ih (k + 1) h
    · assumption
theorem down_not (types : List Int) (k : Nat) (h : 0 ≤ down types k) : rd types (down types k) ≠ 1 := by
  induction k with
  | zero => simp [down] at h
  | succ k ih =>
    unfold down at h ⊢
    split
    · rename_i hc; rw [if_pos hc] at h; exact ih h
    · assumption
/-- between the last place ahead and k all is passed over -/
theorem down_between (types : List Int) (k : Nat) : ∀ j : Nat, down types k < j → j < k → rd types j = 1 := by
  induction k with
  | zero => intro j _ h; omega
  | succ k ih =>
    intro j h1 h2
    unfold down at h1
    split at h1
    · rename_i hc
      by_cases e : j = k
      · subst e; exact hc
      · exact ih j h1 (by omega)
    · omega
theorem up_skip (types : List Int) (k : Nat) (hk : rd types k ≠ 1) (n : Nat) : ∀ j, j ≤ k → k < j + n → (∀ i : Nat, j ≤ i → i < k → rd types i = 1) → up types j n = k := by
  induction n with
  | zero => intro j h1 h2; omega
  | succ n ih =>
    intro j h1 h2 h3
    unfold up
    by_cases e : j = k
    · subst e; rw [if_neg hk]
    · rw [if_pos (h3 j (Nat.le_refl _) (by omega))]
      exact ih (j + 1) (by omega) (by omega) (fun i hi hi2 => h3 i (by omega) hi2)
theorem up_none (types : List Int) (n : Nat) : ∀ j, (∀ i : Nat, j ≤ i → i < j + n → rd types i = 1) → up types j n = -1 := by
  induction n with
  | zero => intro j _; rfl
  | succ n ih =>
    intro j h
    unfold up
    rw [if_pos (h j (Nat.le_refl _) (by omega))]
    exact ih (j + 1) (fun i hi hi2 => h i (by omega) (by omega))
theorem next_of_down (types : List Int) (k m : Nat) (hm : down types k = m) (hk : rd types k ≠ 1) (hl : k < types.length) : next types m = k := by
  have hr := down_range types k
  exact up_skip types k hk _ (m + 1) (by omega) (by omega) (fun i h1 h2 => down_between types k i (by omega) h2)
theorem next_end (types : List Int) (m : Nat) (hm : down types types.length = m) : next types m = -1 := by
  have hr := down_range types types.length
  exact up_none types _ (m + 1) (fun i h1 h2 => down_between types types.length i (by omega) (by omega))

theorem jrun_down (types : List Int) (k : Nat) : (jrun types k).1 = down types k := by
  induction k with
  | zero => rfl
  | succ k ih =>
    unfold jrun stepF down
    split
    · exact ih
    · rfl
theorem joined_of (types : List Int) (k : Nat) (hk : rd types k ≠ 1) (hl : k < types.length) : joinedI types (down types k) = meetsB types (down types k) (rd types k) := by
  have hr := down_range types k
  by_cases h : 0 ≤ down types k
  · obtain ⟨m, hm⟩ : ∃ m : Nat, down types k = m := ⟨(down types k).toNat, by omega⟩
    have hn := next_of_down types k m hm hk hl
    unfold joinedI meetsB behindI
    rw [hm, if_pos (by omega), Int.toNat_natCast, hn]
    simp
  · have : down types k = -1 := by omega
    unfold joinedI meetsB behindI
    rw [this]
    simp
theorem ahead_nat (types : List Int) (j : Nat) (h : j < types.length) : aheadI types j = down types j := by
  unfold aheadI
  rw [if_pos (by omega), Int.toNat_natCast]
theorem shapes_not (t : Int) (h : shapesB t = true) : t ≠ 1 := by
  rintro rfl
  simp [shapesB] at h

theorem jrun_inv (types : List Int) (k : Nat) (hk : k ≤ types.length) : (jrun types k).2.2.length = types.length ∧ (∀ m : Nat, down types k = m → (jrun types k).2.1 = joinedI types (down types m)) ∧
    ∀ j, j < types.length → (jrun types k).2.2.getD j 0 = if (j : Int) < down types k then fm types j else 0 := by
  induction k with
  | zero =>
    refine ⟨by simp [jrun], fun m hm => by simp [down] at hm, fun j hj => ?_⟩
    rw [if_neg (by simp [down])]
    simp [jrun, List.getD_eq_getElem?_getD, hj]
  | succ k ih =>
    obtain ⟨h1, h2, h3⟩ := ih (by omega)
    have hdr := down_range types k
    have hd1 : down types (k + 1) = if rd types k = 1 then down types k else (k : Int) := rfl
    rw [hd1]
    rw [jrun, stepF]
    by_cases hc : rd types k = 1
    · rw [if_pos hc, if_pos hc]
      exact ⟨h1, h2, h3⟩
    · rw [if_neg hc, if_neg hc]
      rw [jrun_down]
      have hj := joined_of types k hc (by omega)
      refine ⟨?_, ?_, ?_⟩
      · unfold outAfter
        split
        · simpa using h1
        · exact h1
      · intro m hm
        obtain rfl : k = m := by omega
        exact hj.symm
      · intro j hjl
        unfold outAfter
        dsimp only
        by_cases hs : 0 ≤ down types k ∧ shapesB (rd types (down types k)) = true
        · rw [if_pos hs]
          obtain ⟨m, hm⟩ : ∃ m : Nat, down types k = m := ⟨(down types k).toNat, by omega⟩
          have hb := h2 m hm
          have hlm : m < types.length := by omega
          rw [hm] at hs hj ⊢
          by_cases e : j = m
          · subst e
            rw [if_pos (by omega)]
            rw [List.getD_eq_getElem?_getD, Int.toNat_natCast, List.getElem?_set_self (by omega)]
            unfold fm
            rw [if_pos hs.2, ahead_nat types j hlm, ← hb, ← hj]
            rfl
          · rw [List.getD_eq_getElem?_getD, Int.toNat_natCast, List.getElem?_set_ne (by omega), ← List.getD_eq_getElem?_getD, h3 j hjl, hm]
            by_cases hjm : j < m
            · rw [if_pos (by omega), if_pos (by omega)]
            · rw [if_neg (by omega)]
              by_cases hjk : j < k
              · rw [if_pos (by omega)]
                have := down_between types k j (by omega) hjk
                unfold fm
                rw [this]
                rfl
              · rw [if_neg (by omega)]
        · rw [if_neg hs, h3 j hjl]
          by_cases hjm : (j : Int) < down types k
          · rw [if_pos hjm, if_pos (by omega)]
          · rw [if_neg hjm]
            by_cases hjk : j < k
            · rw [if_pos (by omega)]
              unfold fm
              by_cases e : (j : Int) = down types k
              · rw [if_neg]
                intro hh
                exact hs ⟨by omega, by rw [← e]; exact hh⟩
              · rw [down_between types k j (by omega) hjk]
                rfl
            · rw [if_neg (by omega)]
theorem formsOf_length (types : List Int) : (formsOf types).length = types.length := by
  obtain ⟨h1, h2, h3⟩ := jrun_inv types types.length (Nat.le_refl _)
  unfold formsOf outAfter
  split
  · simpa using h1
  · exact h1
theorem formsOf_get (types : List Int) (j : Nat) (hj : j < types.length) : (formsOf types).getD j 0 = fm types j := by
  obtain ⟨h1, h2, h3⟩ := jrun_inv types types.length (Nat.le_refl _)
  have hdr := down_range types types.length
  unfold formsOf outAfter
  rw [jrun_down]
  by_cases hs : 0 ≤ down types types.length ∧ shapesB (rd types (down types types.length)) = true
  · rw [if_pos hs]
    obtain ⟨m, hm⟩ : ∃ m : Nat, down types types.length = m := ⟨(down types types.length).toNat, by omega⟩
    have hb := h2 m hm
    have hn := next_end types m hm
    rw [hm] at hs ⊢
    by_cases e : j = m
    · subst e
      rw [List.getD_eq_getElem?_getD, Int.toNat_natCast, List.getElem?_set_self (by omega)]
      unfold fm
      rw [if_pos hs.2, ahead_nat types j hj, ← hb]
      have : joinedI types j = false := by
        unfold joinedI behindI
        rw [if_pos (by omega), Int.toNat_natCast, hn]
        simp
      rw [this]
      rfl
    · rw [List.getD_eq_getElem?_getD, Int.toNat_natCast, List.getElem?_set_ne (by omega), ← List.getD_eq_getElem?_getD, h3 j hj, hm]
      by_cases hjm : j < m
      · rw [if_pos (by omega)]
      · rw [if_neg (by omega)]
        have := down_between types types.length j (by omega) hj
        unfold fm
        rw [this]
        rfl
  · rw [if_neg hs, h3 j hj]
    by_cases hjm : (j : Int) < down types types.length
    · rw [if_pos hjm]
    · rw [if_neg hjm]
      unfold fm
      by_cases e : (j : Int) = down types types.length
      · rw [if_neg]
        intro hh
        exact hs ⟨by omega, by rw [← e]; exact hh⟩
      · rw [down_between types types.length j (by omega) hj]
        rfl
theorem formsOf_eq (types : List Int) : formsOf types = (List.range types.length).map (fm types) := by
  apply List.ext_getElem
  · simp [formsOf_length]
  · intro j h1 h2
    have hj : j < types.length := by rw [formsOf_length] at h1; exact h1
    have := formsOf_get types j hj
    rw [List.getD_eq_getElem?_getD, List.getElem?_eq_getElem h1] at this
    simpa using this
end Go.Proofs.Ytfkgjoflekemaaa.UJoin
/-! Plain: what becomes of marks. No Go and no memory. -/
namespace Go.Proofs.Ytfkgjoflekemaaa.UMark
open Go.RowKit Go.Proofs.YtfkgjoflekemaaaW.PrintWords Go.Proofs.Ytfkgjoflekemaaa.U Go.Proofs.Ytfkgjoflekemaaa.UJoin
def tash (c : Int) : Bool := decide (c = 1648 ∨ (1611 ≤ c ∧ c ≤ 1618))
def acc (a : Int) (m : Bool) : Int × Bool :=
  if a = 1611 then (if m then (65137, true) else (65136, true)) else
  if a = 1612 then (if m then (0, false) else (65138, true)) else
  if a = 1613 then (if m then (0, false) else (65140, true)) else
  if a = 1614 then (if m then (65143, true) else (65142, true)) else
  if a = 1615 then (if m then (65145, true) else (65144, true)) else
  if a = 1616 then (if m then (65147, true) else (65146, true)) else
  if a = 1617 then (if m then (65149, true) else (65148, true)) else
  if a = 1618 then (if m then (65151, true) else (65150, true)) else (0, false)
def alone (c : Int) : Int := if (acc c false).2 = true then (acc c false).1 else c
def carried (c : Int) : Int := if (acc c true).2 = true then (acc c true).1 else alone c
def oneL (c mode : Int) (over : Bool) : List Int :=
  if tash c = true then
    if mode = 2 then (if over = true then [carried c] else [alone c]) else
    if mode = 1 then [alone c] else
    if mode = 4 then (if over = true then [1600] else []) else
    if mode = 3 then [] else [c]
  else [c]
def pile (m : Int) : Int × Bool :=
  if m = 1612 then (64606, true) else if m = 1613 then (64607, true) else if m = 1614 then (64608, true) else
  if m = 1615 then (64609, true) else if m = 1616 then (64610, true) else if m = 1648 then (64611, true) else (0, false)
def pileAt (text : List Int) (i : Nat) : Bool := decide (i + 1 < text.length) && decide (rd text i = 1617) && (pile (rd text ((i + 1 : Nat) : Int))).2
def pilesN (text : List Int) : List Nat := (List.range text.length).filter (pileAt text)
def pilesL (text : List Int) : List Int := (pilesN text).map (fun i : Nat => (i : Int))
def pilesB (mode : Int) : Bool := decide (mode = 0 ∨ mode = 1 ∨ mode = 2)
def allAt (text types : List Int) (mode : Int) (use : Bool) (i : Nat) : List Int :=
  if use && pileAt text i then [(pile (rd text ((i + 1 : Nat) : Int))).1] else
  if use && decide (1 ≤ i) && pileAt text (i - 1) then [] else oneL (rd text i) mode (overI types i)
def allL (text types : List Int) (mode : Int) (pl : Bool) : List (List Int) :=
  if text.length = types.length then (List.range text.length).map (allAt text types mode (pl && pilesB mode)) else []
theorem pile_not (text : List Int) (i : Nat) (h : pileAt text i = true) : pileAt text (i + 1) = false := by
  unfold pileAt at h ⊢
  simp only [Bool.and_eq_true, decide_eq_true_eq] at h
  have h2 := h.2
  generalize rd text ((i + 1 : Nat) : Int) = x at h2 ⊢
  have : x ≠ 1617 := by
    rintro rfl
    simp [pile] at h2
  simp [this]
/-- some piles set into a list of lists, one behind the other -/
def setPiles (text : List Int) : List Nat → List (List Int) → List (List Int)
  | [], l => l
  | i :: r, l => setPiles text r ((l.set i [(pile (rd text ((i + 1 : Nat) : Int))).1]).set (i + 1) [])
def base (text types : List Int) (mode : Int) : List (List Int) := (List.range text.length).map fun i : Nat => oneL (rd text i) mode (overI types i)
theorem setPiles_length (text : List Int) (l : List Nat) : ∀ out, (setPiles text l out).length = out.length := by
  induction l with
  | nil => intro out; rfl
  | cons i r ih => intro out; rw [setPiles, ih]; simp
theorem setPiles_get (text : List Int) (l : List Nat) (hp : ∀ i, i ∈ l → pileAt text i = true) : ∀ out j, j < out.length → (setPiles text l out).getD j [] =
    if j ∈ l then [(pile (rd text ((j + 1 : Nat) : Int))).1] else if 1 ≤ j ∧ (j - 1) ∈ l then [] else out.getD j [] := by
  induction l with
  | nil => intro out j hj; simp [setPiles]
  | cons i r ih =>
    intro out j hj
    rw [setPiles, ih (fun k hk => hp k (List.mem_cons_of_mem _ hk)) _ j (by simpa using hj)]
    have hi := hp i List.mem_cons_self
    have hin := pile_not text i hi
    by_cases h1 : j ∈ r
    · rw [if_pos h1, if_pos (List.mem_cons_of_mem _ h1)]
    · rw [if_neg h1]
      by_cases e : j = i
      · subst e
        have hno : ¬ (1 ≤ j ∧ (j - 1) ∈ r) := by
          rintro ⟨a, b⟩
          have := pile_not text (j - 1) (hp _ (List.mem_cons_of_mem _ b))
          rw [show j - 1 + 1 = j by omega] at this
          rw [this] at hi
          cases hi
        rw [if_pos List.mem_cons_self, if_neg hno, List.getD_eq_getElem?_getD, List.getElem?_set_ne (by omega), List.getElem?_set_self (by simpa using hj)]
        rfl
      · rw [if_neg (show ¬ j ∈ i :: r by simp [e, h1])]
        by_cases h2 : 1 ≤ j ∧ (j - 1) ∈ r
        · rw [if_pos h2, if_pos ⟨h2.1, List.mem_cons_of_mem _ h2.2⟩]
        · rw [if_neg h2]
          by_cases e2 : j = i + 1
          · subst e2
            rw [if_pos ⟨by omega, by rw [Nat.add_sub_cancel]; exact List.mem_cons_self⟩, List.getD_eq_getElem?_getD, List.getElem?_set_self (by simpa using hj)]
            rfl
          · rw [if_neg, List.getD_eq_getElem?_getD, List.getElem?_set_ne (by omega), List.getElem?_set_ne (by omega), List.getD_eq_getElem?_getD]
            rintro ⟨a, b⟩
            rcases List.mem_cons.1 b with b | b
            · omega
            · exact h2 ⟨a, b⟩
theorem mem_piles (text : List Int) (i : Nat) : i ∈ pilesN text ↔ pileAt text i = true := by
  unfold pilesN
  rw [List.mem_filter, List.mem_range]
  constructor
  · exact fun h => h.2
  · intro h
    refine ⟨?_, h⟩
    unfold pileAt at h
    simp only [Bool.and_eq_true, decide_eq_true_eq] at h
    omega
theorem all_piles (text types : List Int) (mode : Int) : setPiles text (pilesN text) (base text types mode) = (List.range text.length).map (allAt text types mode true) := by
  apply List.ext_getElem
  · rw [setPiles_length]; simp [base]
  · intro j h1 h2
    have hb : (base text types mode).length = text.length := by simp [base]
    have hj : j < (base text types mode).length := by rw [setPiles_length] at h1; exact h1
    have hg := setPiles_get text (pilesN text) (fun i hi => (mem_piles text i).1 hi) (base text types mode) j hj
    rw [List.getD_eq_getElem?_getD, List.getElem?_eq_getElem h1] at hg
    simp only [Option.getD_some] at hg
    rw [hg]
    have hbj : (base text types mode).getD j [] = oneL (rd text j) mode (overI types j) := by
      rw [List.getD_eq_getElem?_getD, List.getElem?_eq_getElem hj]
      simp [base]
    rw [hbj, List.getElem_map, List.getElem_range]
    unfold allAt
    simp only [mem_piles, Bool.true_and, Bool.and_eq_true, decide_eq_true_eq]
theorem all_plain (text types : List Int) (mode : Int) : base text types mode = (List.range text.length).map (allAt text types mode false) := by
  unfold base allAt
  simp
end Go.Proofs.Ytfkgjoflekemaaa.UMark
