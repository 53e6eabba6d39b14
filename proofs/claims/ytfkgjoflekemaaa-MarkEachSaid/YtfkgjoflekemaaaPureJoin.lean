/- What the printed functions of join, and of the document's answer for it, tell: the plain words of UJoin. -/
import Derived.Test.YtfkgjoflekemaaaPJoinFormsx1
import Derived.Test.YtfkgjoflekemaaaPJoinFormsx3
import Derived.Test.YtfkgjoflekemaaaUJoin
namespace Go.Proofs.Ytfkgjoflekemaaa.PureJoin
open Go.RowKit Go.Proofs.Ytfkgjoflekemaaa.PJoinForms Go.Proofs.YtfkgjoflekemaaaW.PrintWords Go.Proofs.Ytfkgjoflekemaaa.U Go.Proofs.Ytfkgjoflekemaaa.UJoin

theorem there_eq (xs : List Int) (i : Int) : join_there.f xs i = some (decide (0 ≤ i ∧ i < xs.length)) := by
  unfold join_there.f
  by_cases h : i ≥ 0
  · rw [if_pos h]
    by_cases h2 : i < xs.length <;> simp [h, h2]
  · rw [if_neg h]
    have : ¬ (0 ≤ i ∧ i < xs.length) := by omega
    simp [this]
theorem walk_up (xs : List Int) (hm : xs.length ≤ 1000000) (n : Nat) : ∀ k : Nat, k + n = xs.length → Ev (fun f => join_walk.l0 f xs k 1) (up xs k n) := by
  induction n with
  | zero =>
    intro k hk
    refine Ev.step (fun f => by rw [join_walk.l0]) ?_
    refine ev_bindc (there_eq xs k) ?_
    rw [decide_eq_false (by omega)]
    exact ev_neg (by simp) (ev_now _)
  | succ n ih =>
    intro k hk
    refine Ev.step (fun f => by rw [join_walk.l0]) ?_
    refine ev_bindc (there_eq xs k) ?_
    rw [decide_eq_true (by omega)]
    refine ev_pos rfl (ev_pos (by omega) (ev_pos (by omega) ?_))
    unfold UJoin.up
    refine ev_ite (fun h => ?_) (fun h => ?_)
    · rw [if_pos h, w64 (by omega) (by omega)]
      exact ih (k + 1) (by omega)
    · rw [if_neg h]
      exact ev_now _
theorem walk_down (xs : List Int) (hm : xs.length ≤ 1000000) (k : Nat) : k ≤ xs.length → Ev (fun f => join_walk.l0 f xs ((k : Int) - 1) (-1)) (down xs k) := by
  induction k with
  | zero =>
    intro hk
    refine Ev.step (fun f => by rw [join_walk.l0]) ?_
    refine ev_bindc (there_eq xs _) ?_
    rw [decide_eq_false (by omega)]
    exact ev_neg (by simp) (ev_now _)
  | succ k ih =>
    intro hk
    rw [show ((k + 1 : Nat) : Int) - 1 = k by omega]
    refine Ev.step (fun f => by rw [join_walk.l0]) ?_
    refine ev_bindc (there_eq xs _) ?_
    rw [decide_eq_true (by omega)]
    refine ev_pos rfl (ev_pos (by omega) (ev_pos (by omega) ?_))
    unfold down
    refine ev_ite (fun h => ?_) (fun h => ?_)
    · rw [if_pos h, w64 (by omega) (by omega)]
      exact ih (by omega)
    · rw [if_neg h]
      exact ev_now _
theorem ahead_ev (xs : List Int) (hm : xs.length ≤ 1000000) (i : Int) : Ev (fun k => join_Ahead.f k xs i) (aheadI xs i) := by
  unfold join_Ahead.f join_walk.f aheadI
  refine ev_bind (a := aheadI xs i) ?_ (ev_now _)
  refine ev_bindc (there_eq xs i) ?_
  unfold aheadI
  by_cases h : 0 ≤ i ∧ i < xs.length
  · rw [decide_eq_true h, if_pos h]
    refine ev_pos rfl ?_
    rw [w64 (by omega) (by omega)]
    have := walk_down xs hm i.toNat (by omega)
    rw [show ((i.toNat : Nat) : Int) - 1 = i + -1 by omega] at this
    exact this
  · rw [decide_eq_false h, if_neg h]
    exact ev_neg (by simp) (ev_now _)
theorem behind_ev (xs : List Int) (hm : xs.length ≤ 1000000) (i : Int) : Ev (fun k => join_Behind.f k xs i) (behindI xs i) := by
  unfold join_Behind.f join_walk.f behindI
  refine ev_bind (a := behindI xs i) ?_ (ev_now _)
  refine ev_bindc (there_eq xs i) ?_
  unfold behindI
  by_cases h : 0 ≤ i ∧ i < xs.length
  · rw [decide_eq_true h, if_pos h]
    refine ev_pos rfl ?_
    rw [w64 (by omega) (by omega)]
    have := walk_up xs hm (xs.length - (i.toNat + 1)) (i.toNat + 1) (by omega)
    rw [show ((i.toNat + 1 : Nat) : Int) = i + 1 by omega] at this
    exact this
  · rw [decide_eq_false h, if_neg h]
    exact ev_neg (by simp) (ev_now _)
theorem behindI_range (xs : List Int) (i : Int) : behindI xs i = -1 ∨ (i < behindI xs i ∧ behindI xs i < xs.length ∧ 0 ≤ i) := by
  unfold behindI
  by_cases h : 0 ≤ i ∧ i < xs.length
  · rw [if_pos h]
    unfold next
    rcases up_range xs (xs.length - (i.toNat + 1)) (i.toNat + 1) with h1 | h1
    · exact .inl h1
    · right; omega
  · rw [if_neg h]
    exact .inl rfl
theorem behind_eq (t : Int) : join_behind.f t = some (behindB t) := by
  unfold join_behind.f behindB
  by_cases h1 : t = 3
  · simp [h1]
  · by_cases h2 : t = 4
    · simp [h2]
    · by_cases h3 : t = 5 <;> simp [h1, h2, h3]
theorem ahead_eq (t : Int) : join_ahead.f t = some (aheadB t) := by
  unfold join_ahead.f aheadB
  by_cases h1 : t = 3
  · simp [h1]
  · by_cases h2 : t = 2
    · simp [h2]
    · by_cases h3 : t = 5 <;> simp [h1, h2, h3]
theorem joined_ev (xs : List Int) (hm : xs.length ≤ 1000000) (i : Int) : Ev (fun k => join_Joined.f k xs i) (joinedI xs i) := by
  unfold join_Joined.f
  refine ev_bind (behind_ev xs hm i) ?_
  unfold joinedI
  rcases behindI_range xs i with h | ⟨h1, h2, h3⟩
  · rw [h]
    exact ev_neg (by omega) (ev_now _)
  · refine ev_pos (by omega) (ev_pos (by omega) (ev_pos (by omega) (ev_bindc (behind_eq _) ?_)))
    rw [decide_eq_true (show 0 ≤ behindI xs i by omega)]
    cases behindB (rd xs i)
    · exact ev_neg (by simp) (ev_now _)
    · refine ev_pos rfl (ev_pos (by omega) (ev_pos (by omega) (ev_bindc (ahead_eq _) ?_)))
      exact ev_eq (ev_now _) (by simp)
theorem over_ev (xs : List Int) (hm : xs.length ≤ 1000000) (i : Int) : Ev (fun k => join_Over.f k xs i) (overI xs i) := by
  unfold join_Over.f
  refine ev_bindc (there_eq xs i) ?_
  have jt : Ev (fun k => join_Over.j0 k xs i true) false := Ev.step (fun k => by rw [join_Over.j0]) (ev_pos rfl (ev_now _))
  unfold overI
  by_cases h : 0 ≤ i ∧ i < xs.length
  · rw [decide_eq_true h]
    refine ev_pos rfl (ev_pos (by omega) (ev_pos (by omega) ?_))
    by_cases h2 : rd xs i = 1
    · rw [show (rd xs i != 1) = false by simp [h2], decide_eq_true h2]
      refine Ev.step (fun k => by rw [join_Over.j0]) (ev_neg (by simp) ?_)
      refine ev_bind (ahead_ev xs hm i) (ev_bind (joined_ev xs hm _) ?_)
      exact ev_eq (ev_now _) (by simp)
    · rw [show (rd xs i != 1) = true by simp [h2], decide_eq_false h2]
      exact ev_eq jt (by simp)
  · rw [decide_eq_false h]
    exact ev_neg (by simp) (ev_eq jt (by simp))

/-! ### the document's -/
theorem rup (xs : List Int) (hm : xs.length ≤ 1000000) (n : Nat) : ∀ k : Nat, k + n = xs.length → Ev (fun f => naskhref13_Behind.l0 f xs k) (up xs k n) := by
  induction n with
  | zero =>
    intro k hk
    refine Ev.step (fun f => by rw [naskhref13_Behind.l0]) ?_
    exact ev_neg (by omega) (ev_now _)
  | succ n ih =>
    intro k hk
    refine Ev.step (fun f => by rw [naskhref13_Behind.l0]) ?_
    refine ev_pos (by omega) (ev_pos (by omega) ?_)
    unfold UJoin.up
    refine ev_ite (fun h => ?_) (fun h => ?_)
    · rw [if_pos h, w64 (by omega) (by omega)]
      exact ih (k + 1) (by omega)
    · rw [if_neg h]
      exact ev_now _
theorem rdown (xs : List Int) (hm : xs.length ≤ 1000000) (k : Nat) : k ≤ xs.length → Ev (fun f => naskhref13_Ahead.l0 f xs ((k : Int) - 1)) (down xs k) := by
  induction k with
  | zero =>
    intro hk
    refine Ev.step (fun f => by rw [naskhref13_Ahead.l0]) ?_
    exact ev_neg (by omega) (ev_now _)
  | succ k ih =>
    intro hk
    rw [show ((k + 1 : Nat) : Int) - 1 = k by omega]
    refine Ev.step (fun f => by rw [naskhref13_Ahead.l0]) ?_
    refine ev_pos (by omega) (ev_pos (by omega) (ev_pos (by omega) ?_))
    unfold down
    refine ev_ite (fun h => ?_) (fun h => ?_)
    · rw [if_pos h, w64 (by omega) (by omega)]
      exact ih (by omega)
    · rw [if_neg h]
      exact ev_now _
theorem rahead_ev (xs : List Int) (hm : xs.length ≤ 1000000) (i : Int) : Ev (fun k => naskhref13_Ahead.f k xs i) (aheadI xs i) := by
  have jt : Ev (fun k => naskhref13_Ahead.j0 k xs i true) (-1) := Ev.step (fun k => by rw [naskhref13_Ahead.j0]) (ev_pos rfl (ev_now _))
  unfold naskhref13_Ahead.f aheadI
  by_cases h0 : i < 0
  · rw [if_neg (by omega)]
    exact ev_pos h0 jt
  · refine ev_neg h0 ?_
    by_cases h1 : i ≥ xs.length
    · rw [if_neg (by omega), decide_eq_true h1]
      exact jt
    · rw [if_pos (by omega), decide_eq_false h1]
      refine Ev.step (fun k => by rw [naskhref13_Ahead.j0]) (ev_neg (by simp) ?_)
      rw [w64 (by omega) (by omega)]
      have := rdown xs hm i.toNat (by omega)
      rw [show ((i.toNat : Nat) : Int) - 1 = i - 1 by omega] at this
      exact this
theorem rbehind_ev (xs : List Int) (hm : xs.length ≤ 1000000) (i : Int) : Ev (fun k => naskhref13_Behind.f k xs i) (behindI xs i) := by
  have jt : Ev (fun k => naskhref13_Behind.j0 k xs i true) (-1) := Ev.step (fun k => by rw [naskhref13_Behind.j0]) (ev_pos rfl (ev_now _))
  unfold naskhref13_Behind.f behindI
  by_cases h0 : i < 0
  · rw [if_neg (by omega)]
    exact ev_pos h0 jt
  · refine ev_neg h0 ?_
    by_cases h1 : i ≥ xs.length
    · rw [if_neg (by omega), decide_eq_true h1]
      exact jt
    · rw [if_pos (by omega), decide_eq_false h1]
      refine Ev.step (fun k => by rw [naskhref13_Behind.j0]) (ev_neg (by simp) ?_)
      rw [w64 (by omega) (by omega)]
      have := rup xs hm (xs.length - (i.toNat + 1)) (i.toNat + 1) (by omega)
      rw [show ((i.toNat + 1 : Nat) : Int) = i + 1 by omega] at this
      exact this
theorem rjoined_ev (xs : List Int) (hm : xs.length ≤ 1000000) (i : Int) : Ev (fun k => naskhref13_Joined.f k xs i) (joinedI xs i) := by
  unfold naskhref13_Joined.f
  refine ev_bind (rbehind_ev xs hm i) ?_
  unfold joinedI
  rcases behindI_range xs i with h | ⟨h1, h2, h3⟩
  · rw [h]
    exact ev_pos (by omega) (ev_now _)
  · refine ev_neg (by omega) (ev_pos (by omega) (ev_pos (by omega) (ev_pos (by omega) (ev_pos (by omega) ?_))))
    rw [decide_eq_true (show 0 ≤ behindI xs i by omega)]
    generalize rd xs i = a
    generalize rd xs (behindI xs i) = b
    refine ev_const ?_
    unfold behindB aheadB
    by_cases a1 : a = 3 <;> by_cases a2 : a = 4 <;> by_cases a3 : a = 5 <;> by_cases b1 : b = 3 <;> by_cases b2 : b = 2 <;> simp [a1, a2, a3, b1, b2] <;> omega
theorem rforms_loop (xs : List Int) (hm : xs.length ≤ 1000000) (n : Nat) : ∀ (i : Nat) (out : List Int), i + n = xs.length → out = (List.range i).map (fm xs) →
    Ev (fun k => naskhref13_Forms.l0 k xs out i) ((List.range xs.length).map (fm xs)) := by
  induction n with
  | zero =>
    intro i out hi ho
    refine Ev.step (fun k => by rw [naskhref13_Forms.l0]) (ev_neg (by omega) (ev_eq (ev_now _) ?_))
    rw [ho, show i = xs.length by omega]
  | succ n ih =>
    intro i out hi ho
    have key : ∀ y, y = fm xs i → Ev (fun k => naskhref13_Forms.l0 k xs (out ++ [y]) (wrap64 ((i : Int) + 1))) ((List.range xs.length).map (fm xs)) := by
      rintro y rfl
      rw [w64 (by omega) (by omega)]
      exact ih (i + 1) _ (by omega) (by rw [ho, List.range_succ, List.map_append]; rfl)
    have hlen : out.length < 17592186044416 := by rw [ho]; simp; omega
    refine Ev.step (fun k => by rw [naskhref13_Forms.l0]) (ev_pos (by omega) (ev_pos (by omega) ?_))
    refine ev_bind (rahead_ev xs hm i) (ev_bind (rjoined_ev xs hm _) ?_)
    generalize hA : joinedI xs (aheadI xs i) = A
    have yes : shapesB (rd xs i) = true → Ev (fun k => naskhref13_Forms.j1 k xs out i A 0 true) ((List.range xs.length).map (fm xs)) := by
      intro hs
      have hf : fm xs i = formOf A (joinedI xs i) := by unfold fm; rw [if_pos hs, hA]
      have j2 : ∀ b, b = (A && joinedI xs i) → Ev (fun k => naskhref13_Forms.j2 k xs out i A b) ((List.range xs.length).map (fm xs)) := by
        rintro b rfl
        refine Ev.step (fun k => by rw [naskhref13_Forms.j2]) ?_
        cases A
        · refine ev_neg (by simp) (ev_neg (by simp) (ev_bind (rjoined_ev xs hm _) ?_))
          cases hj : joinedI xs i
          · exact ev_neg (by simp) (ev_pos hlen (key _ (by rw [hf, hj]; rfl)))
          · exact ev_pos rfl (ev_pos hlen (key _ (by rw [hf, hj]; rfl)))
        · cases hj : joinedI xs i
          · refine ev_neg (by simp) (ev_pos rfl (ev_pos hlen (key _ (by rw [hf, hj]; rfl))))
          · refine ev_pos (by simp) (ev_pos hlen (key _ (by rw [hf, hj]; rfl)))
      refine Ev.step (fun k => by rw [naskhref13_Forms.j1]) (ev_pos rfl ?_)
      cases A
      · exact ev_neg (by simp) (j2 _ (by simp))
      · exact ev_pos rfl (ev_bind (rjoined_ev xs hm _) (j2 _ (by simp)))
    refine ev_ite (fun h => yes (by rw [h]; rfl)) (fun h1 => ev_ite (fun h => yes (by rw [h]; rfl)) (fun h2 => ?_))
    by_cases h3 : rd xs i = 4
    · rw [show (rd xs i == 4) = true by simpa using h3]
      exact yes (by rw [h3]; rfl)
    · rw [show (rd xs i == 4) = false by simpa using h3]
      refine Ev.step (fun k => by rw [naskhref13_Forms.j1]) (ev_neg (by simp) (ev_pos hlen (key _ ?_)))
      unfold fm
      rw [if_neg]
      unfold shapesB
      simp [h1, h2, h3]
theorem rforms_ev (xs : List Int) (hm : xs.length ≤ 1000000) : Ev (fun k => naskhref13_Forms.f k xs) (formsOf xs) := by
  rw [formsOf_eq]
  exact rforms_loop xs hm xs.length 0 [] (by omega) rfl
end Go.Proofs.Ytfkgjoflekemaaa.PureJoin
