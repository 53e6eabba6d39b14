/- Plain: the forms of what stands between two places that join nothing hang on nothing outside. -/
import Derived.Test.YtfkgjoflekemaaaUJoin
namespace Go.Proofs.Ytfkgjoflekemaaa.UJoin
open Go.RowKit Go.Proofs.YtfkgjoflekemaaaW.PrintWords Go.Proofs.Ytfkgjoflekemaaa.U
section
variable (a b c : List Int)
def allOf : List Int := a ++ 0 :: (b ++ 0 :: c)
theorem all_length : (allOf a b c).length = a.length + 1 + b.length + 1 + c.length := by simp [allOf]; omega
theorem rd_all (j : Nat) (h : j < b.length) : rd (allOf a b c) ((a.length + 1 + j : Nat) : Int) = rd b j := by
  unfold allOf
  rw [rd_nat, rd_nat, List.getD_eq_getElem?_getD, List.getElem?_append_right (by omega), show a.length + 1 + j - a.length = j + 1 by omega, List.getElem?_cons_succ, List.getElem?_append_left h, List.getD_eq_getElem?_getD]
theorem rd_left : rd (allOf a b c) (a.length : Int) = 0 := by
  unfold allOf
  rw [rd_nat, List.getD_eq_getElem?_getD, List.getElem?_append_right (by omega)]
  simp
theorem rd_right : rd (allOf a b c) ((a.length + 1 + b.length : Nat) : Int) = 0 := by
  unfold allOf
  rw [rd_nat, List.getD_eq_getElem?_getD, List.getElem?_append_right (by omega), show a.length + 1 + b.length - a.length = b.length + 1 by omega, List.getElem?_cons_succ, List.getElem?_append_right (by omega)]
  simp
theorem down_all (k : Nat) (hk : k ≤ b.length) : down (allOf a b c) (a.length + 1 + k) = if down b k = -1 then (a.length : Int) else a.length + 1 + down b k := by
  induction k with
  | zero =>
    have h1 : down (allOf a b c) (a.length + 1) = if rd (allOf a b c) (a.length : Int) = 1 then down (allOf a b c) a.length else (a.length : Int) := rfl
    have h2 : down b 0 = -1 := rfl
    rw [Nat.add_zero, h1, rd_left, if_neg (by decide), h2, if_pos rfl]
  | succ k ih =>
    rw [show a.length + 1 + (k + 1) = (a.length + 1 + k) + 1 by omega, down, rd_all a b c k (by omega)]
    have hd : down b (k + 1) = if rd b k = 1 then down b k else (k : Int) := rfl
    rw [hd]
    by_cases h : rd b k = 1
    · rw [if_pos h, if_pos h, ih (by omega)]
    · rw [if_neg h, if_neg h, if_neg (by omega)]
      omega
theorem up_all (n : Nat) : ∀ k, k + n = b.length → up (allOf a b c) (a.length + 1 + k) (n + 1 + c.length) = if up b k n = -1 then ((a.length + 1 + b.length : Nat) : Int) else a.length + 1 + up b k n := by
  induction n with
  | zero =>
    intro k hk
    obtain rfl : k = b.length := by omega
    have h1 : up (allOf a b c) (a.length + 1 + b.length) (c.length + 1) = if rd (allOf a b c) ((a.length + 1 + b.length : Nat) : Int) = 1 then up (allOf a b c) (a.length + 1 + b.length + 1) c.length else ((a.length + 1 + b.length : Nat) : Int) := rfl
    have h2 : up b b.length 0 = -1 := rfl
    rw [show 0 + 1 + c.length = c.length + 1 by omega, h1, rd_right, if_neg (by decide), h2, if_pos rfl]
  | succ n ih =>
    intro k hk
    have h1 : up (allOf a b c) (a.length + 1 + k) ((n + 1 + c.length) + 1) = if rd (allOf a b c) ((a.length + 1 + k : Nat) : Int) = 1 then up (allOf a b c) (a.length + 1 + k + 1) (n + 1 + c.length) else ((a.length + 1 + k : Nat) : Int) := rfl
    rw [show n + 1 + 1 + c.length = (n + 1 + c.length) + 1 by omega, h1, rd_all a b c k (by omega)]
    have hu : up b k (n + 1) = if rd b k = 1 then up b (k + 1) n else (k : Int) := rfl
    rw [hu]
    by_cases h : rd b k = 1
    · rw [if_pos h, if_pos h]
      have := ih (k + 1) (by omega)
      rw [show a.length + 1 + (k + 1) = a.length + 1 + k + 1 by omega] at this
      exact this
    · rw [if_neg h, if_neg h, if_neg (by omega)]
      omega
theorem joined_all (j : Nat) (h : j < b.length) : joinedI (allOf a b c) ((a.length + 1 + j : Nat) : Int) = joinedI b j := by
  have hl := all_length a b c
  have hu := up_all a b c (b.length - (j + 1)) (j + 1) (by omega)
  have hr := up_range b (b.length - (j + 1)) (j + 1)
  unfold joinedI behindI
  rw [if_pos (by omega), if_pos (by omega), Int.toNat_natCast, Int.toNat_natCast]
  unfold next
  rw [show a.length + 1 + j + 1 = a.length + 1 + (j + 1) by omega, show (allOf a b c).length - (a.length + 1 + (j + 1)) = b.length - (j + 1) + 1 + c.length by omega, hu, rd_all a b c j h]
  rcases hr with hr | hr
  · rw [if_pos hr, hr, rd_right]
    simp [aheadB]
  · rw [if_neg (by omega)]
    obtain ⟨m, hm⟩ : ∃ m : Nat, up b (j + 1) (b.length - (j + 1)) = m := ⟨(up b (j + 1) (b.length - (j + 1))).toNat, by omega⟩
    rw [hm] at hr ⊢
    have e : (a.length : Int) + 1 + (m : Int) = ((a.length + 1 + m : Nat) : Int) := by omega
    rw [e, rd_all a b c m (by omega), decide_eq_true (by omega), decide_eq_true (by omega)]
theorem joined_left : joinedI (allOf a b c) (a.length : Int) = false := by
  unfold joinedI
  rw [rd_left]
  simp [behindB]
theorem fm_all (j : Nat) (h : j < b.length) : fm (allOf a b c) (a.length + 1 + j) = fm b j := by
  have hl := all_length a b c
  have hd := down_all a b c j (by omega)
  have hr := down_range b j
  unfold fm
  rw [rd_all a b c j h, joined_all a b c j h, ahead_nat _ _ (by omega), ahead_nat _ _ h, hd]
  by_cases e : down b j = -1
  · rw [if_pos e, e, joined_left]
    rfl
  · rw [if_neg e]
    obtain ⟨m, hm⟩ : ∃ m : Nat, down b j = m := ⟨(down b j).toNat, by omega⟩
    rw [hm] at hr ⊢
    rw [show (a.length : Int) + 1 + (m : Int) = ((a.length + 1 + m : Nat) : Int) by omega, joined_all a b c m (by omega)]
theorem forms_apart : ((formsOf (allOf a b c)).drop (a.length + 1)).take b.length = formsOf b := by
  have hl := all_length a b c
  apply List.ext_getElem
  · simp [formsOf_length]; omega
  · intro j h1 h2
    have hj : j < b.length := by rw [formsOf_length] at h2; exact h2
    have g1 := formsOf_get (allOf a b c) (a.length + 1 + j) (by omega)
    have g2 := formsOf_get b j hj
    rw [List.getD_eq_getElem?_getD, List.getElem?_eq_getElem (by rw [formsOf_length]; omega)] at g1
    rw [List.getD_eq_getElem?_getD, List.getElem?_eq_getElem h2] at g2
    simp only [Option.getD_some] at g1 g2
    rw [List.getElem_take, List.getElem_drop, g1, g2, fm_all a b c j hj]
end
end Go.Proofs.Ytfkgjoflekemaaa.UJoin
