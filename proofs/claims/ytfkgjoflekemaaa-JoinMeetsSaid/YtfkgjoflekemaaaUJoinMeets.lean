/- Plain: what joins what is behind is met there. -/
import Derived.Test.YtfkgjoflekemaaaUJoin
namespace Go.Proofs.Ytfkgjoflekemaaa.UJoin
open Go.RowKit Go.Proofs.YtfkgjoflekemaaaW.PrintWords Go.Proofs.Ytfkgjoflekemaaa.U
theorem up_between (types : List Int) (n : Nat) : ∀ j, 0 ≤ up types j n → ∀ i : Nat, j ≤ i → (i : Int) < up types j n → rd types i = 1 := by
  induction n with
  | zero => intro j h; simp [up] at h
  | succ n ih =>
    intro j h i h1 h2
    unfold up at h h2
    by_cases hc : rd types j = 1
    · rw [if_pos hc] at h h2
      by_cases e : i = j
      · subst e; exact hc
      · exact ih (j + 1) h i (by omega) h2
    · rw [if_neg hc] at h2
      omega
theorem down_skip (types : List Int) (i : Nat) (hi : rd types i ≠ 1) (k : Nat) (h : ∀ j : Nat, i < j → j < k → rd types j = 1) (hik : i < k) : down types k = i := by
  induction k with
  | zero => omega
  | succ k ih =>
    unfold down
    by_cases e : i = k
    · subst e; rw [if_neg hi]
    · rw [if_pos (h k (by omega) (by omega))]
      exact ih (fun j h1 h2 => h j h1 (by omega)) (by omega)
theorem meets (types : List Int) (i : Nat) (hi : i < types.length) (h : fm types i = 3 ∨ fm types i = 4) :
    ∃ k : Nat, behindI types i = k ∧ k < types.length ∧ (rd types k = 5 ∨ fm types k = 2 ∨ fm types k = 4) := by
  have hs : shapesB (rd types i) = true := by
    cases hb : shapesB (rd types i)
    · unfold fm at h; rw [hb] at h; simp at h
    · rfl
  have hj : joinedI types i = true := by
    cases hb : joinedI types i
    · unfold fm formOf at h
      rw [if_pos hs, hb] at h
      generalize joinedI types (aheadI types i) = b at h
      cases b <;> simp at h
    · rfl
  have hj' := hj
  unfold joinedI at hj
  simp only [Bool.and_eq_true, decide_eq_true_eq] at hj
  obtain ⟨⟨h0, h1⟩, h2⟩ := hj
  have hb : behindI types i = next types i := by unfold behindI; rw [if_pos (by omega), Int.toNat_natCast]
  rw [hb] at h0 h2
  unfold next at h0 h2 hb
  have hr := up_range types (types.length - (i + 1)) (i + 1)
  have hbt := up_between types _ _ h0
  have hn := up_not types _ _ h0
  obtain ⟨k, hk⟩ : ∃ k : Nat, up types (i + 1) (types.length - (i + 1)) = k := ⟨_, (Int.toNat_of_nonneg h0).symm⟩
  rw [hk] at hr hbt hn h2 hb
  refine ⟨k, hb, by omega, ?_⟩
  have hd : down types k = i := down_skip types i (shapes_not _ hs) k (fun j a b => hbt j (by omega) (by omega)) (by omega)
  by_cases h5 : rd types k = 5
  · exact .inl h5
  · right
    have hsk : shapesB (rd types k) = true := by
      unfold aheadB at h2
      unfold shapesB
      simp at h2 ⊢
      omega
    unfold fm
    rw [if_pos hsk, ahead_nat types k (by omega), hd, hj']
    cases joinedI types k
    · left; rfl
    · right; rfl
end Go.Proofs.Ytfkgjoflekemaaa.UJoin
