/- Plain law: the smallest parts in which spans lie whole: one way with what is reached, one by what parts. -/
import Derived.Test.YtohhobcipfmkbaaCFinQ
namespace Go.Proofs.Ytohhobcipfmkbaa.UGroups
open Go.Proofs.Ytohhobcipfmkbaa.PClusterFinest
set_option linter.unusedVariables false
set_option linter.unusedSimpArgs false
/-- a span of N places -/
def OkS (N : Nat) (s : S33) : Prop := 0 ≤ s.f0 ∧ s.f0 < s.f1 ∧ s.f1 ≤ (N : Int)
instance (N : Nat) (s : S33) : Decidable (OkS N s) := by unfold OkS; infer_instance
/-- a span lies across a place -/
def acrossB (N : Nat) (J : List S33) (t : Nat) : Bool := J.any fun s => decide (OkS N s) && (decide (s.f0 < (t : Int)) && decide ((t : Int) < s.f1))
theorem across_iff {N : Nat} {J : List S33} {t : Nat} : acrossB N J t = true ↔ ∃ s ∈ J, OkS N s ∧ s.f0 < (t : Int) ∧ (t : Int) < s.f1 := by
  unfold acrossB
  rw [List.any_eq_true]
  simp only [Bool.and_eq_true, decide_eq_true_eq]
def stepG (N : Nat) (J : List S33) (t : Nat) (q : List S33 × Nat) : List S33 × Nat := if t = N ∨ acrossB N J t = false then (q.1 ++ [⟨(q.2 : Int), (t : Int)⟩], t) else q
/-- the parts that end up to t, and where the next one begins -/
def grpTo (N : Nat) (J : List S33) : Nat → List S33 × Nat
  | 0 => ([], 0)
  | t + 1 => stepG N J (t + 1) (grpTo N J t)
def groups (N : Nat) (J : List S33) : List S33 := (grpTo N J N).1
theorem grp_len (N : Nat) (J : List S33) (t : Nat) : (grpTo N J t).1.length ≤ t := by
  induction t with
  | zero => exact Nat.le_refl _
  | succ t ih =>
    unfold grpTo stepG
    split
    · simp; exact ih
    · omega
/-- how far the spans that begin ahead of t reach -/
structure IsH (N : Nat) (J : List S33) (t : Nat) (h : Int) : Prop where
  ge : (t : Int) ≤ h
  up : ∀ s ∈ J, OkS N s → s.f0 < (t : Int) → s.f1 ≤ h
  is : h = (t : Int) ∨ ∃ s ∈ J, OkS N s ∧ s.f0 < (t : Int) ∧ s.f1 = h
structure IsR (N : Nat) (J : List S33) (i : Nat) (r : Int) : Prop where
  ge : 0 ≤ r
  up : ∀ s ∈ J, OkS N s → s.f0 = (i : Int) → s.f1 ≤ r
  is : r = 0 ∨ ∃ s ∈ J, OkS N s ∧ s.f0 = (i : Int) ∧ s.f1 = r
theorem isH_end {N : Nat} {J : List S33} {t : Nat} {h : Int} (hh : IsH N J t h) : h = (t : Int) ↔ acrossB N J t = false := by
  constructor
  · intro e
    cases hc : acrossB N J t with
    | false => rfl
    | true =>
      obtain ⟨s, hs, ho, h1, h2⟩ := across_iff.1 hc
      have := hh.up s hs ho h1
      omega
  · intro hc
    rcases hh.is with e | ⟨s, hs, ho, h1, h2⟩
    · exact e
    · have hge := hh.ge
      by_cases hlt : (t : Int) < s.f1
      · have := across_iff.2 ⟨s, hs, ho, h1, hlt⟩
        rw [hc] at this; cases this
      · omega
theorem isH_step {N : Nat} {J : List S33} {t : Nat} {h r : Int} (hh : IsH N J t h) (hr : IsR N J t r) : IsH N J (t + 1) (max (max h ((t : Int) + 1)) r) := by
  refine ⟨by omega, fun s hs ho h1 => ?_, ?_⟩
  · by_cases e : s.f0 = (t : Int)
    · have := hr.up s hs ho e; omega
    · have := hh.up s hs ho (by omega); omega
  · by_cases c1 : r ≤ max h ((t : Int) + 1)
    · by_cases c2 : h ≤ (t : Int) + 1
      · exact .inl (by omega)
      · rcases hh.is with e | ⟨s, hs, ho, h1, h2⟩
        · omega
        · exact .inr ⟨s, hs, ho, by omega, by omega⟩
    · rcases hr.is with e | ⟨s, hs, ho, h1, h2⟩
      · have := hh.ge; omega
      · exact .inr ⟨s, hs, ho, by omega, by omega⟩
/-- the array of what is reached, behind the spans up to j -/
def Reach (N : Nat) (J : List S33) (l : List Int) : Prop := l.length = N ∧ ∀ i, i < N → IsR N J i (l.getD i 0)
theorem reach_zero (N : Nat) : Reach N [] (List.replicate N 0) := ⟨by simp, fun i hi => ⟨by simp [List.getD_eq_getElem?_getD, List.getElem?_replicate, hi], (fun s hs => by cases hs), .inl (by simp [List.getD_eq_getElem?_getD, List.getElem?_replicate, hi])⟩⟩
theorem reach_no {N : Nat} {J : List S33} {l : List Int} {s : S33} (h : Reach N J l) (hs : ¬ OkS N s) : Reach N (J ++ [s]) l := by
  refine ⟨h.1, fun i hi => ?_⟩
  have := h.2 i hi
  refine ⟨this.ge, fun q hq ho e => ?_, ?_⟩
  · rcases List.mem_append.1 hq with hq | hq
    · exact this.up q hq ho e
    · rw [List.mem_singleton] at hq; subst hq; exact absurd ho hs
  · exact this.is.imp_right fun ⟨q, hq, hh⟩ => ⟨q, List.mem_append_left _ hq, hh⟩
theorem reach_yes {N : Nat} {J : List S33} {l : List Int} {s : S33} (h : Reach N J l) (hs : OkS N s) : Reach N (J ++ [s]) (l.set s.f0.toNat (max (l.getD s.f0.toNat 0) s.f1)) := by
  have h0 := hs.1; have h1 := hs.2.1; have h2 := hs.2.2
  refine ⟨by rw [List.length_set]; exact h.1, fun i hi => ?_⟩
  have hi' := h.2 i hi
  by_cases e : i = s.f0.toNat
  · have eg : (l.set s.f0.toNat (max (l.getD s.f0.toNat 0) s.f1)).getD i 0 = max (l.getD i 0) s.f1 := by
      rw [← e, List.getD_eq_getElem?_getD, List.getElem?_set_self (by rw [h.1]; exact hi)]; rfl
    rw [eg]
    refine ⟨by have := hi'.ge; omega, fun q hq ho eq => ?_, ?_⟩
    · rcases List.mem_append.1 hq with hq | hq
      · have := hi'.up q hq ho eq; omega
      · rw [List.mem_singleton] at hq; subst hq; omega
    · by_cases hc : l.getD i 0 ≤ s.f1
      · exact .inr ⟨s, List.mem_append_right _ (List.mem_singleton.2 rfl), hs, by omega, by omega⟩
      · rcases hi'.is with e0 | ⟨q, hq, ho, e1, e2⟩
        · omega
        · exact .inr ⟨q, List.mem_append_left _ hq, ho, e1, by omega⟩
  · have eg : (l.set s.f0.toNat (max (l.getD s.f0.toNat 0) s.f1)).getD i 0 = l.getD i 0 := by
      rw [List.getD_eq_getElem?_getD, List.getElem?_set_ne (fun h => e h.symm), ← List.getD_eq_getElem?_getD]
    rw [eg]
    refine ⟨hi'.ge, fun q hq ho eq => ?_, hi'.is.imp_right fun ⟨q, hq, hh⟩ => ⟨q, List.mem_append_left _ hq, hh⟩⟩
    rcases List.mem_append.1 hq with hq | hq
    · exact hi'.up q hq ho eq
    · rw [List.mem_singleton] at hq; subst hq; omega
theorem isH_one {N : Nat} {J : List S33} {r : Int} (hr : IsR N J 0 r) : IsH N J 1 (max 1 r) := by
  refine ⟨by omega, fun s hs ho h1 => ?_, ?_⟩
  · have := ho.1
    have := hr.up s hs ho (by omega); omega
  · by_cases c : r ≤ 1
    · exact .inl (by omega)
    · rcases hr.is with e | ⟨s, hs, ho, h1, h2⟩
      · omega
      · exact .inr ⟨s, hs, ho, by omega, by omega⟩
theorem isH_last {N : Nat} {J : List S33} {h : Int} (hh : IsH N J N h) : h = (N : Int) := by
  rcases hh.is with e | ⟨s, hs, ho, h1, h2⟩
  · exact e
  · have := ho.2.2; have := hh.ge; omega
/-- the groups are parts, and each span lies in one -/
theorem grp_lo (N : Nat) (J : List S33) (t : Nat) (ht : t ≤ N) : (grpTo N J t).2 ≤ t := by
  induction t with
  | zero => exact Nat.le_refl _
  | succ t ih =>
    unfold grpTo stepG
    split
    · exact Nat.le_refl _
    · have := ih (by omega); omega
theorem grp_lo_lt (N : Nat) (J : List S33) (t : Nat) (ht : t < N) : (grpTo N J t).2 ≤ t ∧ (t = 0 ∨ acrossB N J (grpTo N J t).2 = false) := by
  refine ⟨grp_lo N J t (by omega), ?_⟩
  induction t with
  | zero => exact .inl rfl
  | succ t ih =>
    right
    unfold grpTo stepG
    split
    · rename_i h
      rcases h with h | h
      · omega
      · exact h
    · rcases ih (by omega) with h | h
      · subst h
        cases hc : acrossB N J (grpTo N J 0).2 with
        | false => rfl
        | true =>
          obtain ⟨s, hs, ho, h1, h2⟩ := across_iff.1 hc
          have := ho.1
          have e : (grpTo N J 0).2 = 0 := rfl
          rw [e] at h1
          omega
      · exact h
end Go.Proofs.Ytohhobcipfmkbaa.UGroups
