/- Plain: a place that is passed over, set in anywhere, changes no form of others. No Go and no memory. -/
import Derived.Test.YtfkgjoflekemaaaUPlain
namespace Go.Proofs.Ytfkgjoflekemaaa.UJoinMarks
open Go.RowKit Go.Proofs.YtfkgjoflekemaaaW.PrintWords Go.Proofs.Ytfkgjoflekemaaa.U Go.Proofs.Ytfkgjoflekemaaa.UJoin
def ins (xs : List Int) (k : Nat) : List Int := xs.take k ++ 1 :: xs.drop k
def sh (k : Nat) (d : Int) : Int := if d < k then d else d + 1
def ix (k j : Nat) : Nat := if j < k then j else j + 1
theorem ins_length (xs : List Int) (k : Nat) (hk : k ≤ xs.length) : (ins xs k).length = xs.length + 1 := by
  simp [ins]; omega
theorem rd_lo (xs : List Int) (k : Nat) (hk : k ≤ xs.length) (j : Nat) (h : j < k) : rd (ins xs k) (j : Int) = rd xs (j : Int) := by
  rw [rd_nat, rd_nat, ins, List.getD_eq_getElem?_getD, List.getD_eq_getElem?_getD, List.getElem?_append_left (by simp; omega), List.getElem?_take, if_pos h]
theorem rd_hi (xs : List Int) (k : Nat) (hk : k ≤ xs.length) (j : Nat) (h : k ≤ j) : rd (ins xs k) ((j + 1 : Nat) : Int) = rd xs (j : Int) := by
  rw [rd_nat, rd_nat, ins, List.getD_eq_getElem?_getD, List.getD_eq_getElem?_getD, List.getElem?_append_right (by simp; omega)]
  simp only [List.length_take]
  rw [show j + 1 - min k xs.length = (j - k) + 1 by omega, List.getElem?_cons_succ, List.getElem?_drop, show k + (j - k) = j by omega]
theorem rd_at (xs : List Int) (k : Nat) (hk : k ≤ xs.length) : rd (ins xs k) (k : Int) = 1 := by
  rw [rd_nat, ins, List.getD_eq_getElem?_getD, List.getElem?_append_right (by simp; omega)]
  simp only [List.length_take]
  rw [show k - min k xs.length = 0 by omega]
  rfl
theorem down_lo (xs : List Int) (k : Nat) (hk : k ≤ xs.length) : ∀ j, j ≤ k → down (ins xs k) j = down xs j := by
  intro j
  induction j with
  | zero => intro _; rfl
  | succ j ih =>
    intro h
    unfold down
    rw [rd_lo xs k hk j (by omega), ih (by omega)]
theorem down_hi (xs : List Int) (k : Nat) (hk : k ≤ xs.length) : ∀ m, down (ins xs k) (k + m + 1) = sh k (down xs (k + m)) := by
  intro m
  induction m with
  | zero =>
    rw [down, if_pos (by exact rd_at xs k hk), Nat.add_zero, down_lo xs k hk k (Nat.le_refl _)]
    have := down_range xs k
    unfold sh
    rw [if_pos (by omega)]
  | succ m ih =>
    rw [down]
    have e : rd (ins xs k) ((k + (m + 1) : Nat) : Int) = rd xs ((k + m : Nat) : Int) := rd_hi xs k hk (k + m) (by omega)
    rw [e]
    rw [show k + (m + 1) = (k + m) + 1 by omega, show down xs (k + m + 1) = if rd xs ((k + m : Nat) : Int) = 1 then down xs (k + m) else ((k + m : Nat) : Int) from rfl]
    by_cases hc : rd xs ((k + m : Nat) : Int) = 1
    · rw [if_pos hc, if_pos hc]; exact ih
    · rw [if_neg hc, if_neg hc]
      unfold sh
      rw [if_neg (by omega)]
      omega
theorem up_hi (xs : List Int) (k : Nat) (hk : k ≤ xs.length) : ∀ n j, k ≤ j → up (ins xs k) (j + 1) n = sh k (up xs j n) := by
  intro n
  induction n with
  | zero => intro j h; unfold up sh; rw [if_pos (by omega)]
  | succ n ih =>
    intro j h
    unfold up
    rw [rd_hi xs k hk j h]
    by_cases hc : rd xs (j : Int) = 1
    · rw [if_pos hc, if_pos hc]; exact ih (j + 1) (by omega)
    · rw [if_neg hc, if_neg hc]
      unfold sh
      rw [if_neg (by omega)]
      omega
theorem up_lo (xs : List Int) (k : Nat) (hk : k ≤ xs.length) : ∀ n j, j ≤ k → k ≤ j + n → up (ins xs k) j (n + 1) = sh k (up xs j n) := by
  intro n
  induction n with
  | zero =>
    intro j h h2
    obtain rfl : j = k := by omega
    unfold up
    rw [if_pos (rd_at xs j hk)]
    unfold up sh
    rw [if_pos (by omega)]
  | succ n ih =>
    intro j h h2
    by_cases e : j = k
    · subst e
      rw [up, if_pos (rd_at xs j hk)]
      exact up_hi xs j hk (n + 1) j (Nat.le_refl _)
    · rw [up, rd_lo xs k hk j (by omega), show up xs j (n + 1) = if rd xs (j : Int) = 1 then up xs (j + 1) n else (j : Int) from rfl]
      by_cases hc : rd xs (j : Int) = 1
      · rw [if_pos hc, if_pos hc]; exact ih (j + 1) (by omega) (by omega)
      · rw [if_neg hc, if_neg hc]
        unfold sh
        rw [if_pos (by omega)]
theorem sh_ix (k j : Nat) : sh k (j : Int) = (ix k j : Nat) := by
  unfold sh ix
  by_cases h : j < k
  · rw [if_pos (by omega), if_pos h]
  · rw [if_neg (by omega), if_neg h]; omega
theorem ix_lt (xs : List Int) (k : Nat) (hk : k ≤ xs.length) (j : Nat) (h : j < xs.length) : ix k j < (ins xs k).length := by
  rw [ins_length xs k hk]
  unfold ix
  split <;> omega
theorem rd_ix (xs : List Int) (k : Nat) (hk : k ≤ xs.length) (j : Nat) : rd (ins xs k) ((ix k j : Nat) : Int) = rd xs (j : Int) := by
  unfold ix
  by_cases h : j < k
  · rw [if_pos h]; exact rd_lo xs k hk j h
  · rw [if_neg h]; exact rd_hi xs k hk j (by omega)
theorem next_ix (xs : List Int) (k : Nat) (hk : k ≤ xs.length) (j : Nat) (hj : j < xs.length) : next (ins xs k) (ix k j) = sh k (next xs j) := by
  unfold next
  rw [ins_length xs k hk]
  unfold ix
  by_cases h : j < k
  · rw [if_pos h, show xs.length + 1 - (j + 1) = xs.length - (j + 1) + 1 by omega]
    exact up_lo xs k hk _ (j + 1) (by omega) (by omega)
  · rw [if_neg h, show xs.length + 1 - (j + 1 + 1) = xs.length - (j + 1) by omega]
    exact up_hi xs k hk _ (j + 1) (by omega)
theorem joined_ix (xs : List Int) (k : Nat) (hk : k ≤ xs.length) (j : Nat) (hj : j < xs.length) : joinedI (ins xs k) ((ix k j : Nat) : Int) = joinedI xs (j : Int) := by
  have hl := ix_lt xs k hk j hj
  have hr := up_range xs (xs.length - (j + 1)) (j + 1)
  have hb : behindI (ins xs k) ((ix k j : Nat) : Int) = sh k (behindI xs j) := by
    unfold behindI
    rw [if_pos (by omega), if_pos (by omega), Int.toNat_natCast, Int.toNat_natCast]
    exact next_ix xs k hk j hj
  unfold joinedI
  rw [hb, rd_ix xs k hk j]
  by_cases h : 0 ≤ behindI xs j
  · obtain ⟨m, hm⟩ : ∃ m : Nat, behindI xs j = m := ⟨(behindI xs j).toNat, by omega⟩
    rw [hm, sh_ix, rd_ix xs k hk m]
    simp
  · have e : decide (0 ≤ behindI xs (j : Int)) = false := decide_eq_false h
    have e2 : decide (0 ≤ sh k (behindI xs (j : Int))) = false := decide_eq_false (by unfold sh; split <;> omega)
    rw [e, e2]
    rfl
theorem ahead_ix (xs : List Int) (k : Nat) (hk : k ≤ xs.length) (j : Nat) (hj : j < xs.length) : aheadI (ins xs k) ((ix k j : Nat) : Int) = sh k (aheadI xs (j : Int)) := by
  rw [ahead_nat _ _ (ix_lt xs k hk j hj), ahead_nat _ _ hj]
  unfold ix
  by_cases h : j < k
  · rw [if_pos h, down_lo xs k hk j (by omega)]
    have := down_range xs j
    unfold sh
    rw [if_pos (by omega)]
  · rw [if_neg h]
    obtain ⟨m, rfl⟩ : ∃ m, j = k + m := ⟨j - k, by omega⟩
    exact down_hi xs k hk m
theorem fm_ix (xs : List Int) (k : Nat) (hk : k ≤ xs.length) (j : Nat) (hj : j < xs.length) : fm (ins xs k) (ix k j) = fm xs j := by
  unfold fm
  rw [rd_ix xs k hk j, joined_ix xs k hk j hj, ahead_ix xs k hk j hj]
  have hr := down_range xs j
  have ha := ahead_nat xs j hj
  by_cases h : 0 ≤ aheadI xs (j : Int)
  · obtain ⟨m, hm⟩ : ∃ m : Nat, aheadI xs j = m := ⟨(aheadI xs j).toNat, by omega⟩
    rw [hm, sh_ix, joined_ix xs k hk m (by omega)]
  · have e : aheadI xs (j : Int) = -1 := by omega
    rw [e]
    have : sh k (-1) = -1 := by unfold sh; rw [if_pos (by omega)]
    rw [this]
    have h1 : ∀ ys : List Int, joinedI ys (-1) = false := fun ys => by unfold joinedI behindI; simp
    rw [h1, h1]
theorem forms_at (xs : List Int) (k : Nat) (hk : k ≤ xs.length) : rd (formsOf (ins xs k)) (k : Int) = 0 := by
  rw [rd_nat, formsOf_get _ _ (by rw [ins_length xs k hk]; omega)]
  unfold fm
  rw [rd_at xs k hk]
  rfl
theorem forms_ins (xs : List Int) (k : Nat) (hk : k ≤ xs.length) : (formsOf (ins xs k)).take k ++ (formsOf (ins xs k)).drop (k + 1) = formsOf xs := by
  have hl := formsOf_length (ins xs k)
  rw [ins_length xs k hk] at hl
  apply List.ext_getElem
  · simp [formsOf_length, hl]; omega
  · intro j h1 h2
    have hj : j < xs.length := by rw [formsOf_length] at h2; exact h2
    have hg := formsOf_get xs j hj
    have hi := formsOf_get (ins xs k) (ix k j) (ix_lt xs k hk j hj)
    rw [fm_ix xs k hk j hj, ← hg] at hi
    rw [List.getD_eq_getElem?_getD, List.getD_eq_getElem?_getD, List.getElem?_eq_getElem h2] at hi
    have e : ((formsOf (ins xs k)).take k ++ (formsOf (ins xs k)).drop (k + 1))[j]? = (formsOf (ins xs k))[ix k j]? := by
      unfold ix
      by_cases h : j < k
      · rw [if_pos h, List.getElem?_append_left (by simp; omega), List.getElem?_take, if_pos h]
      · rw [if_neg h, List.getElem?_append_right (by simp; omega), List.getElem?_drop]
        congr 1
        simp
        omega
    have e2 := List.getElem?_eq_getElem h1
    rw [e] at e2
    rw [e2] at hi
    simpa using hi
end Go.Proofs.Ytfkgjoflekemaaa.UJoinMarks
