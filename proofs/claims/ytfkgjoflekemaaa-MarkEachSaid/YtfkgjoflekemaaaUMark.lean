/- Plain: what becomes of marks. No Go and no memory. -/
import Derived.Test.YtfkgjoflekemaaaUJoin
namespace Go.Proofs.Ytfkgjoflekemaaa.UMark
open Go.RowKit Go.Proofs.YtfkgjoflekemaaaW.PrintWords Go.Proofs.Ytfkgjoflekemaaa.U Go.Proofs.Ytfkgjoflekemaaa.UJoin
def tash (c : Int) : Bool := decide (c = 1648 ∨ (1611 ≤ c ∧ c ≤ 1618))
def acc (a : Int) (m : Bool) : Int × Bool :=
  if a = 1611 then (if m then (65137, true) else (65136, true)) else
  if a = 1612 then (if m then (0, false) else (65138, true)) else
  if a = 1613 then (if m then (0, false) else (65140, true)) else
  if a = 1614 then (if m then (65143, true) else (65142, true)) else
  if a = 1615 then (if m then (65145, true) else (65144, true)) else
  if a = 1616 then (if m then (65147, true) else (65146, true)) else
  if a = 1617 then (if m then (65149, true) else (65148, true)) else
  if a = 1618 then (if m then (65151, true) else (65150, true)) else (0, false)
def alone (c : Int) : Int := if (acc c false).2 = true then (acc c false).1 else c
def carried (c : Int) : Int := if (acc c true).2 = true then (acc c true).1 else alone c
def oneL (c mode : Int) (over : Bool) : List Int :=
  if tash c = true then
    if mode = 2 then (if over = true then [carried c] else [alone c]) else
    if mode = 1 then [alone c] else
    if mode = 4 then (if over = true then [1600] else []) else
    if mode = 3 then [] else [c]
  else [c]
def pile (m : Int) : Int × Bool :=
  if m = 1612 then (64606, true) else if m = 1613 then (64607, true) else if m = 1614 then (64608, true) else
  if m = 1615 then (64609, true) else if m = 1616 then (64610, true) else if m = 1648 then (64611, true) else (0, false)
def pileAt (text : List Int) (i : Nat) : Bool := decide (i + 1 < text.length) && decide (rd text i = 1617) && (pile (rd text ((i + 1 : Nat) : Int))).2
def pilesN (text : List Int) : List Nat := (List.range text.length).filter (pileAt text)
def pilesL (text : List Int) : List Int := (pilesN text).map (fun i : Nat => (i : Int))
def pilesB (mode : Int) : Bool := decide (mode = 0 ∨ mode = 1 ∨ mode = 2)
def allAt (text types : List Int) (mode : Int) (use : Bool) (i : Nat) : List Int :=
  if use && pileAt text i then [(pile (rd text ((i + 1 : Nat) : Int))).1] else
  if use && decide (1 ≤ i) && pileAt text (i - 1) then [] else oneL (rd text i) mode (overI types i)
def allL (text types : List Int) (mode : Int) (pl : Bool) : List (List Int) :=
  if text.length = types.length then (List.range text.length).map (allAt text types mode (pl && pilesB mode)) else []
theorem pile_not (text : List Int) (i : Nat) (h : pileAt text i = true) : pileAt text (i + 1) = false := by
  unfold pileAt at h ⊢
  simp only [Bool.and_eq_true, decide_eq_true_eq] at h
  have h2 := h.2
  generalize rd text ((i + 1 : Nat) : Int) = x at h2 ⊢
  have : x ≠ 1617 := by
    rintro rfl
    simp [pile] at h2
  simp [this]
/-- some piles set into a list of lists, one behind the other -/
def setPiles (text : List Int) : List Nat → List (List Int) → List (List Int)
  | [], l => l
  | i :: r, l => setPiles text r ((l.set i [(pile (rd text ((i + 1 : Nat) : Int))).1]).set (i + 1) [])
def base (text types : List Int) (mode : Int) : List (List Int) := (List.range text.length).map fun i : Nat => oneL (rd text i) mode (overI types i)
theorem setPiles_length (text : List Int) (l : List Nat) : ∀ out, (setPiles text l out).length = out.length := by
  induction l with
  | nil => intro out; rfl
  | cons i r ih => intro out; rw [setPiles, ih]; simp
theorem setPiles_get (text : List Int) (l : List Nat) (hp : ∀ i, i ∈ l → pileAt text i = true) : ∀ out j, j < out.length → (setPiles text l out).getD j [] =
    if j ∈ l then [(pile (rd text ((j + 1 : Nat) : Int))).1] else if 1 ≤ j ∧ (j - 1) ∈ l then [] else out.getD j [] := by
  induction l with
  | nil => intro out j hj; simp [setPiles]
  | cons i r ih =>
    intro out j hj
    rw [setPiles, ih (fun k hk => hp k (List.mem_cons_of_mem _ hk)) _ j (by simpa using hj)]
    have hi := hp i List.mem_cons_self
    have hin := pile_not text i hi
    by_cases h1 : j ∈ r
    · rw [if_pos h1, if_pos (List.mem_cons_of_mem _ h1)]
    · rw [if_neg h1]
      by_cases e : j = i
      · subst e
        have hno : ¬ (1 ≤ j ∧ (j - 1) ∈ r) := by
          rintro ⟨a, b⟩
          have := pile_not text (j - 1) (hp _ (List.mem_cons_of_mem _ b))
          rw [show j - 1 + 1 = j by omega] at this
          rw [this] at hi
          cases hi
        rw [if_pos List.mem_cons_self, if_neg hno, List.getD_eq_getElem?_getD, List.getElem?_set_ne (by omega), List.getElem?_set_self (by simpa using hj)]
        rfl
      · rw [if_neg (show ¬ j ∈ i :: r by simp [e, h1])]
        by_cases h2 : 1 ≤ j ∧ (j - 1) ∈ r
        · rw [if_pos h2, if_pos ⟨h2.1, List.mem_cons_of_mem _ h2.2⟩]
        · rw [if_neg h2]
          by_cases e2 : j = i + 1
          · subst e2
            rw [if_pos ⟨by omega, by rw [Nat.add_sub_cancel]; exact List.mem_cons_self⟩, List.getD_eq_getElem?_getD, List.getElem?_set_self (by simpa using hj)]
            rfl
          · rw [if_neg, List.getD_eq_getElem?_getD, List.getElem?_set_ne (by omega), List.getElem?_set_ne (by omega), List.getD_eq_getElem?_getD]
            rintro ⟨a, b⟩
            rcases List.mem_cons.1 b with b | b
            · omega
            · exact h2 ⟨a, b⟩
theorem mem_piles (text : List Int) (i : Nat) : i ∈ pilesN text ↔ pileAt text i = true := by
  unfold pilesN
  rw [List.mem_filter, List.mem_range]
  constructor
  · exact fun h => h.2
  · intro h
    refine ⟨?_, h⟩
    unfold pileAt at h
    simp only [Bool.and_eq_true, decide_eq_true_eq] at h
    omega
theorem all_piles (text types : List Int) (mode : Int) : setPiles text (pilesN text) (base text types mode) = (List.range text.length).map (allAt text types mode true) := by
  apply List.ext_getElem
  · rw [setPiles_length]; simp [base]
  · intro j h1 h2
    have hb : (base text types mode).length = text.length := by simp [base]
    have hj : j < (base text types mode).length := by rw [setPiles_length] at h1; exact h1
    have hg := setPiles_get text (pilesN text) (fun i hi => (mem_piles text i).1 hi) (base text types mode) j hj
    rw [List.getD_eq_getElem?_getD, List.getElem?_eq_getElem h1] at hg
    simp only [Option.getD_some] at hg
    rw [hg]
    have hbj : (base text types mode).getD j [] = oneL (rd text j) mode (overI types j) := by
      rw [List.getD_eq_getElem?_getD, List.getElem?_eq_getElem hj]
      simp [base]
    rw [hbj, List.getElem_map, List.getElem_range]
    unfold allAt
    simp only [mem_piles, Bool.true_and, Bool.and_eq_true, decide_eq_true_eq]
theorem all_plain (text types : List Int) (mode : Int) : base text types mode = (List.range text.length).map (allAt text types mode false) := by
  unfold base allAt
  simp
end Go.Proofs.Ytfkgjoflekemaaa.UMark
