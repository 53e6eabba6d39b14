/- A line's levels, found from its end on, are the document's. Plain: over the printed functions, without Go and memory. -/
import Derived.Test.YtfkgjoflekemaaaPResolveLinex4
import Derived.Test.YtfkgjoflekemaaaUEv
namespace Go.Proofs.Ytfkgjoflekemaaa.PureResolveLine
open Go.RowKit Go.Proofs.Ytfkgjoflekemaaa.PResolveLine Go.Proofs.YtfkgjoflekemaaaW.PrintWords Go.Proofs.YtfkgjoflekemaaaW.PrintLast Go.Proofs.Ytfkgjoflekemaaa.U

/-! ### slices.Equal -/
theorem equal_loop (xs ys : List Int) (hl : xs.length = ys.length) (hm : xs.length ≤ 1000000000000) (d : Nat) : ∀ i : Nat, i + d = xs.length →
    Ev (fun k => slices_Equal_int_int.l0 k xs ys (xs.length : Int) (i : Int)) (decide (xs.drop i = ys.drop i)) := by
  induction d with
  | zero =>
    intro i hi
    refine Ev.step (fun k => by rw [slices_Equal_int_int.l0]) ?_
    refine ev_neg (by omega) (ev_eq (ev_now _) ?_)
    rw [List.drop_of_length_le (by omega), List.drop_of_length_le (by omega)]
    simp
  | succ d ih =>
    intro i hi
    refine Ev.step (fun k => by rw [slices_Equal_int_int.l0]) ?_
    refine ev_pos (by omega) (ev_pos (by omega) (ev_pos (by omega) (ev_pos (by omega) ?_)))
    rw [rd_get (show i < xs.length by omega), rd_get (show i < ys.length by omega), List.drop_eq_getElem_cons (l := xs) (show i < xs.length by omega), List.drop_eq_getElem_cons (l := ys) (show i < ys.length by omega)]
    refine ev_ite (fun h => ?_) (fun h => ?_)
    · rw [w64 (by omega) (by omega)]
      refine ev_eq (ih (i + 1) (by omega)) ?_
      simp only [List.cons.injEq, h, true_and]
    · refine ev_eq (ev_now _) ?_
      simp only [List.cons.injEq, h, false_and, decide_false]
theorem equal_ev (xs ys : List Int) (hm : xs.length ≤ 1000000000000) : Ev (fun k => slices_Equal_int_int.f k xs ys) (decide (xs = ys)) := by
  unfold slices_Equal_int_int.f
  refine ev_ite (fun h => ?_) (fun h => ?_)
  · simpa using equal_loop xs ys (by omega) hm xs.length 0 (by omega)
  · refine ev_eq (ev_now _) ?_
    symm
    rw [decide_eq_false_iff_not]
    rintro rfl
    exact h rfl

/-! ### what a class does at a line's end -/
def kind (c : Int) : Int := if c = 11 ∨ c = 10 then 2 else if c = 12 ∨ c = 19 ∨ c = 20 ∨ c = 21 ∨ c = 22 ∨ c = 14 ∨ c = 15 ∨ c = 16 ∨ c = 17 ∨ c = 18 ∨ c = 9 then 1 else 0
theorem kindOf_ev (c : Int) : Ev (fun k => resolve_kindOf.f k c) (kind c) := by
  have j1f : Ev (fun k => resolve_kindOf.j1 k c false) (if c = 14 ∨ c = 15 ∨ c = 16 ∨ c = 17 ∨ c = 18 ∨ c = 9 then 1 else 0) := by
    refine Ev.step (fun k => by rw [resolve_kindOf.j1]) ?_
    refine ev_neg (by simp) ?_
    unfold explicit_Left.f
    by_cases h : c = 14 ∨ c = 15 ∨ c = 16 ∨ c = 17 ∨ c = 18 ∨ c = 9
    · rw [if_pos h]
      rcases h with rfl | rfl | rfl | rfl | rfl | rfl <;> simp [ev_now]
    · rw [if_neg h]
      simp only [not_or] at h
      simp [h, ev_now]
  have j1t : Ev (fun k => resolve_kindOf.j1 k c true) 1 := Ev.step (fun k => by rw [resolve_kindOf.j1]) (ev_pos rfl (ev_now _))
  have j0t : Ev (fun k => resolve_kindOf.j0 k c c true) 2 := Ev.step (fun k => by rw [resolve_kindOf.j0]) (ev_pos rfl (ev_now _))
  unfold resolve_kindOf.f
  by_cases h : c = 11 ∨ c = 10
  · rcases h with rfl | rfl
    · exact j0t
    · exact j0t
  · simp only [not_or] at h
    refine ev_neg h.1 ?_
    rw [show (c == 10) = false by simpa using h.2]
    refine Ev.step (fun k => by rw [resolve_kindOf.j0]) (ev_neg (by simp) ?_)
    unfold kind
    rw [if_neg (by simpa using h)]
    by_cases h2 : c = 12 ∨ c = 19 ∨ c = 20 ∨ c = 21 ∨ c = 22
    · rw [if_pos (by rcases h2 with rfl | rfl | rfl | rfl | rfl <;> simp)]
      rcases h2 with rfl | rfl | rfl | rfl | rfl <;> exact j1t
    · simp only [not_or] at h2
      refine ev_neg h2.1 (ev_neg h2.2.1 (ev_neg h2.2.2.1 (ev_neg h2.2.2.2.1 ?_)))
      rw [show (c == 22) = false by simpa using h2.2.2.2.2]
      refine ev_eq j1f ?_
      simp [h2]
theorem blank_eq (c : Int) (h : ¬ (c = 11 ∨ c = 10)) : naskhref27_blank.f c = some (decide (kind c = 1)) := by
  unfold naskhref27_blank.f naskhref22_Left.f kind
  rw [if_neg h]
  by_cases h2 : c = 12 ∨ c = 19 ∨ c = 20 ∨ c = 21 ∨ c = 22
  · rcases h2 with rfl | rfl | rfl | rfl | rfl <;> simp
  · simp only [not_or] at h2
    obtain ⟨a, b, d, e, f⟩ := h2
    rw [if_neg a, if_neg b, if_neg d, if_neg e, if_neg f]
    by_cases h3 : 14 ≤ c
    · by_cases h4 : c ≤ 18
      · have : c = 14 ∨ c = 15 ∨ c = 16 ∨ c = 17 ∨ c = 18 := by omega
        rcases this with rfl | rfl | rfl | rfl | rfl <;> simp
      · have h5 : ¬ c = 9 := by omega
        have : ¬ (c = 12 ∨ c = 19 ∨ c = 20 ∨ c = 21 ∨ c = 22 ∨ c = 14 ∨ c = 15 ∨ c = 16 ∨ c = 17 ∨ c = 18 ∨ c = 9) := by omega
        rw [if_pos (show c ≥ 14 from h3), if_neg h4, if_neg this]
        simp [h5]
    · by_cases h5 : c = 9
      · subst h5; simp
      · have : ¬ (c = 12 ∨ c = 19 ∨ c = 20 ∨ c = 21 ∨ c = 22 ∨ c = 14 ∨ c = 15 ∨ c = 16 ∨ c = 17 ∨ c = 18 ∨ c = 9) := by omega
        rw [if_neg (show ¬ c ≥ 14 from h3), if_neg this]
        simp [h5]

/-! ### the end of a line: n places from i on -/
def endsN (c : List Int) : Nat → Nat → Bool
  | _, 0 => true
  | i, n + 1 => if kind (c.getD i 0) = 2 then true else if kind (c.getD i 0) = 1 then endsN c (i + 1) n else false
theorem ends_ev (c : List Int) (hi : Nat) (h : hi ≤ c.length) (hm : c.length ≤ 1000000000000) (n : Nat) : ∀ i, i + n = hi → Ev (fun k => naskhref27_ends.l0 k c (hi : Int) (i : Int)) (endsN c i n) := by
  induction n with
  | zero =>
    intro i hi'
    refine Ev.step (fun k => by rw [naskhref27_ends.l0]) ?_
    exact ev_neg (by omega) (ev_now _)
  | succ n ih =>
    intro i hi'
    have jt : Ev (fun k => naskhref27_ends.j1 k c (hi : Int) (i : Int) true) true := Ev.step (fun k => by rw [naskhref27_ends.j1]) (ev_pos rfl (ev_now _))
    refine Ev.step (fun k => by rw [naskhref27_ends.l0]) ?_
    refine ev_pos (by omega) (ev_pos (by omega) (ev_pos (by omega) ?_))
    rw [rd_nat, endsN]
    generalize hx : c.getD i 0 = x
    by_cases h1 : x = 11 ∨ x = 10
    · rw [if_pos (show kind x = 2 by unfold kind; rw [if_pos h1])]
      rcases h1 with rfl | rfl
      · exact jt
      · exact jt
    · have h2 : kind x ≠ 2 := by
        unfold kind
        rw [if_neg h1]
        split <;> omega
      rw [if_neg h2]
      have h1' := h1
      simp only [not_or] at h1'
      refine ev_neg h1'.1 ?_
      rw [show (x == 10) = false by simpa using h1'.2]
      refine Ev.step (fun k => by rw [naskhref27_ends.j1]) ?_
      refine ev_neg (by simp) (ev_pos (by omega) (ev_pos (by omega) ?_))
      rw [rd_nat, hx]
      refine ev_bindc (blank_eq x h1) ?_
      by_cases h3 : kind x = 1
      · rw [if_pos h3]
        refine ev_pos (by simpa using h3) ?_
        rw [w64 (by omega) (by omega)]
        exact ih (i + 1) (by omega)
      · rw [if_neg h3]
        exact ev_neg (by simpa using h3) (ev_now _)

/-! ### a line -/
def lev (c l : List Int) (base : Int) (i n : Nat) : Int := if endsN c i n then base else l.getD i 0
def tailOf (c l : List Int) (base : Int) : Nat → Nat → List Int
  | _, 0 => []
  | i, n + 1 => lev c l base i (n + 1) :: tailOf c l base (i + 1) n
theorem tailOf_length (c l : List Int) (base : Int) (n : Nat) : ∀ i, (tailOf c l base i n).length = n := by
  induction n with
  | zero => intro i; rfl
  | succ n ih => intro i; simp [tailOf, ih]

theorem ref_loop (c l : List Int) (base : Int) (lo hi : Nat) (hc : c.length = l.length) (h : hi ≤ l.length) (hm : c.length ≤ 100000000) (n : Nat) : ∀ (i : Nat) (out : List Int), i + n = hi → out.length ≤ i →
    Ev (fun k => naskhref27_Line.l0 k c l base out (i : Int) (lo : Int) (hi : Int)) (out ++ tailOf c l base i n) := by
  induction n with
  | zero =>
    intro i out hi' ho
    refine Ev.step (fun k => by rw [naskhref27_Line.l0]) (ev_neg (by omega) (ev_eq (ev_now _) ?_))
    simp [tailOf]
  | succ n ih =>
    intro i out hi' ho
    refine Ev.step (fun k => by rw [naskhref27_Line.l0]) (ev_pos (by omega) ?_)
    have he : Ev (fun k => naskhref27_ends.f k c (i : Int) (hi : Int)) (endsN c i (n + 1)) := ends_ev c hi (by omega) (by omega) (n + 1) i (by omega)
    refine ev_bind he ?_
    have hl : ∀ y, y = lev c l base i (n + 1) → Ev (fun k => naskhref27_Line.l0 k c l base (out ++ [y]) (wrap64 ((i : Int) + 1)) (lo : Int) (hi : Int)) (out ++ tailOf c l base i (n + 1)) := by
      rintro y rfl
      rw [w64 (by omega) (by omega)]
      refine ev_eq (ih (i + 1) (out ++ [lev c l base i (n + 1)]) (by omega) (by simp; omega)) ?_
      simp [tailOf]
    by_cases hb : endsN c i (n + 1) = true
    · refine ev_pos hb (ev_pos (by omega) (hl _ ?_))
      simp [lev, hb]
    · refine ev_neg hb (ev_pos (by omega) (ev_pos (by omega) (ev_pos (by omega) (hl _ ?_))))
      simp [lev, hb, rd_nat]

theorem replicate_set (n : Nat) (y : Int) (xs : List Int) : (List.replicate (n + 1) 0 ++ xs).set n y = List.replicate n 0 ++ y :: xs := by
  rw [List.replicate_succ', List.append_assoc, List.set_append_right _ _ (by simp)]
  simp

theorem line_loop (c l : List Int) (base : Int) (lo hi : Nat) (hc : c.length = l.length) (h : hi ≤ l.length) (hlo : lo ≤ hi) (hm : c.length ≤ 100000000) (d : Nat) : ∀ (n : Nat), d + n = hi - lo →
    Ev (fun k => resolve_Line.l0 k c l base (List.replicate d 0 ++ tailOf c l base (lo + d) n) (endsN c (lo + d) n) ((lo : Int) + d - 1) (lo : Int) (hi : Int)) (tailOf c l base lo (hi - lo)) := by
  induction d with
  | zero =>
    intro n hn
    refine Ev.step (fun k => by rw [resolve_Line.l0]) (ev_neg (by omega) (ev_eq (ev_now _) ?_))
    simp [show n = hi - lo by omega]
  | succ d ih =>
    intro n hn
    refine Ev.step (fun k => by rw [resolve_Line.l0]) ?_
    have e1 : (lo : Int) + ((d + 1 : Nat) : Int) - 1 = ((lo + d : Nat) : Int) := by omega
    have e2 : wrap64 (((lo + d : Nat) : Int) - (lo : Int)) = (d : Int) := by rw [w64 (by omega) (by omega)]; omega
    have e3 : wrap64 (((lo + d : Nat) : Int) - 1) = (lo : Int) + d - 1 := by rw [w64 (by omega) (by omega)]; omega
    have key := ih (n + 1) (by omega)
    have hlen : (List.replicate (d + 1) (0 : Int) ++ tailOf c l base (lo + (d + 1)) n).length = d + 1 + n := by simp [tailOf_length]
    rw [tailOf, show lo + d + 1 = lo + (d + 1) by omega] at key
    have fill : ∀ y, y = lev c l base (lo + d) (n + 1) → ∀ b, b = endsN c (lo + d) (n + 1) →
        Ev (fun k => resolve_Line.l0 k c l base ((List.replicate (d + 1) (0 : Int) ++ tailOf c l base (lo + (d + 1)) n).set d y) b ((lo : Int) + d - 1) (lo : Int) (hi : Int)) (tailOf c l base lo (hi - lo)) := by
      rintro y rfl b rfl
      rw [replicate_set]
      exact key
    rw [e1, e2, e3]
    refine ev_pos (by omega) (ev_pos (by omega) (ev_pos (by omega) (ev_bind (kindOf_ev _) ?_)))
    rw [rd_nat, rd_nat]
    have hends : endsN c (lo + d) (n + 1) = if kind (c.getD (lo + d) 0) = 2 then true else if kind (c.getD (lo + d) 0) = 1 then endsN c (lo + (d + 1)) n else false := by
      rw [endsN]; rfl
    have hk : kind (c.getD (lo + d) 0) = 2 ∨ kind (c.getD (lo + d) 0) = 0 ∨ kind (c.getD (lo + d) 0) = 1 := by
      unfold kind; split
      · exact .inl rfl
      · split
        · exact .inr (.inr rfl)
        · exact .inr (.inl rfl)
    have hset : ∀ y z : Int, ((List.replicate (d + 1) (0 : Int) ++ tailOf c l base (lo + (d + 1)) n).set ((d : Int)).toNat y).set ((d : Int)).toNat z = (List.replicate (d + 1) (0 : Int) ++ tailOf c l base (lo + (d + 1)) n).set d z := by
      intro y z
      rw [Int.toNat_natCast, List.set_set]
    rcases hk with hk | hk | hk
    · rw [hk] at hends
      refine ev_pos hk (ev_pos (by omega) (ev_pos (by omega) (ev_pos (by omega) ?_)))
      rw [hset]
      exact fill _ (by simp [lev, hends]) _ (by simp [hends])
    · rw [hk] at hends
      refine ev_neg (by omega) (ev_pos hk (ev_pos (by omega) (ev_pos (by omega) (ev_pos (by omega) ?_))))
      rw [Int.toNat_natCast]
      exact fill _ (by simp [lev, hends]) _ (by simp [hends])
    · rw [hk] at hends
      refine ev_neg (by omega) (ev_neg (by omega) (ev_pos (by omega) (ev_pos (by omega) (ev_pos (by omega) (ev_bindc rfl ?_)))))
      by_cases hb : endsN c (lo + (d + 1)) n = true
      · refine ev_pos hb ?_
        rw [hset]
        exact fill _ (by simp [lev, hends, hb]) _ (by simp [hends])
      · refine ev_neg hb ?_
        rw [Int.toNat_natCast]
        exact fill _ (by simp [lev, hends, hb]) _ (by simp [hends])

theorem awake_ev : Ev (fun k => naskhlaw27_awake.f k) true := ev_at (fun k => naskhlaw27_awake.mono k) 20 (by decide +kernel)

def spec (c l : List Int) (lo hi base : Int) : List Int :=
  if c.length = l.length ∧ 0 ≤ lo ∧ lo < hi ∧ hi ≤ l.length then tailOf c l base lo.toNat (hi.toNat - lo.toNat) else []

theorem line_ev (c l : List Int) (lo hi base : Int) (hm : c.length ≤ 100000000) : Ev (fun k => resolve_Line.f k c l lo hi base) (spec c l lo hi base) := by
  have jt : Ev (fun k => resolve_Line.j0 k c l base true lo hi) [] := Ev.step (fun k => by rw [resolve_Line.j0]) (ev_pos rfl (ev_now _))
  unfold resolve_Line.f
  by_cases h : c.length = l.length ∧ 0 ≤ lo ∧ lo < hi ∧ hi ≤ l.length
  · unfold spec
    rw [if_pos h]
    obtain ⟨h1, h2, h3, h4⟩ := h
    refine ev_pos (by omega) (ev_bindc (a := true) ?_ ?_)
    · unfold resolve_within.f
      rw [if_pos (by omega), if_pos h3]
      simp [h4]
    · obtain ⟨a, rfl⟩ : ∃ a : Nat, lo = a := ⟨lo.toNat, by omega⟩
      obtain ⟨b, rfl⟩ : ∃ b : Nat, hi = b := ⟨hi.toNat, by omega⟩
      refine Ev.step (fun k => by rw [resolve_Line.j0]) (ev_neg (by simp) ?_)
      rw [w64 (by omega) (by omega)]
      refine ev_pos (by omega) (ev_pos (by omega) ?_)
      have := line_loop c l base a b h1 (by omega) (by omega) hm (b - a) 0 (by omega)
      rw [show a + (b - a) = b by omega, tailOf, endsN, List.append_nil, show (a : Int) + ((b - a : Nat) : Int) - 1 = (b : Int) - 1 by omega] at this
      rw [w64 (n := (b : Int) - 1) (by omega) (by omega), show ((b : Int) - (a : Int)).toNat = b - a by omega, Int.toNat_natCast, Int.toNat_natCast]
      exact this
  · unfold spec
    rw [if_neg h]
    by_cases h1 : c.length = l.length
    · refine ev_pos (by omega) (ev_bindc (a := false) ?_ jt)
      unfold resolve_within.f
      by_cases h2 : lo ≥ 0
      · rw [if_pos h2]
        by_cases h3 : lo < hi
        · rw [if_pos h3]
          simp; omega
        · rw [if_neg h3]
      · rw [if_neg h2]
    · exact ev_neg (by omega) jt

theorem ref_ev (c l : List Int) (lo hi base : Int) (hm : c.length ≤ 100000000) : Ev (fun k => naskhref27_Line.f k c l lo hi base) (spec c l lo hi base) := by
  have jt : Ev (fun k => naskhref27_Line.j0 k c l base true lo hi) [] := Ev.step (fun k => by rw [naskhref27_Line.j0]) (ev_pos rfl (ev_now _))
  unfold naskhref27_Line.f
  by_cases h : c.length = l.length ∧ 0 ≤ lo ∧ lo < hi ∧ hi ≤ l.length
  · unfold spec
    rw [if_pos h]
    obtain ⟨h1, h2, h3, h4⟩ := h
    obtain ⟨a, rfl⟩ : ∃ a : Nat, lo = a := ⟨lo.toNat, by omega⟩
    obtain ⟨b, rfl⟩ : ∃ b : Nat, hi = b := ⟨hi.toNat, by omega⟩
    refine ev_pos (by omega) (ev_neg (by omega) (ev_neg (by omega) ?_))
    rw [show decide ((b : Int) > (l.length : Int)) = false by simp; omega]
    refine Ev.step (fun k => by rw [naskhref27_Line.j0]) (ev_neg (by simp) ?_)
    have := ref_loop c l base a b h1 (by omega) (by omega) (b - a) a [] (by omega) (by simp)
    simpa using this
  · unfold spec
    rw [if_neg h]
    by_cases h1 : c.length = l.length
    · refine ev_pos (by omega) ?_
      refine ev_ite (fun _ => jt) (fun h2 => ev_ite (fun _ => jt) (fun h3 => ?_))
      rw [show decide (hi > (l.length : Int)) = true by simp; omega]
      exact jt
    · exact ev_neg (by omega) jt

theorem law (c l : List Int) (lo hi base : Int) : ∃ k, naskhlaw27_ResolveLine.f k c l lo hi base = some true := by
  refine Ev.rounds ?_
  have aw : Ev (fun k => (naskhlaw27_awake.f k).bind fun t => some t) true := ev_bind awake_ev (ev_now _)
  have jt : Ev (fun k => naskhlaw27_ResolveLine.j0 k c l base true lo hi) true := Ev.step (fun k => by rw [naskhlaw27_ResolveLine.j0]) (ev_pos rfl aw)
  unfold naskhlaw27_ResolveLine.f
  refine ev_ite (fun _ => jt) (fun h1 => ?_)
  by_cases h2 : (l.length : Int) > 200
  · rw [decide_eq_true h2]
    exact jt
  · rw [decide_eq_false h2]
    refine Ev.step (fun k => by rw [naskhlaw27_ResolveLine.j0]) (ev_neg (by simp) ?_)
    refine ev_bind (line_ev c l lo hi base (by omega)) (ev_bind (ref_ev c l lo hi base (by omega)) ?_)
    refine ev_bind (equal_ev _ _ ?_) (ev_pos (by simp) aw)
    unfold spec
    split
    · rw [tailOf_length]; omega
    · simp
end Go.Proofs.Ytfkgjoflekemaaa.PureResolveLine
