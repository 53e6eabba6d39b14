/- Merged of own texts: PureJoin, CJoin, CJoin2, CJoin3. -/
import Derived.Test.YtfkgjoflekemaaaPJoinFormsx1
import Derived.Test.YtfkgjoflekemaaaPJoinFormsx3
import Derived.Test.YtfkgjoflekemaaaUPlain
import Derived.Test.YtfkgjoflekemaaaUBase
import Derived.Test.YtfkgjoflekemaaaCBase
/-! What the printed functions of join, and of the document's answer for it, tell: the plain words of UJoin. -/
namespace Go.Proofs.Ytfkgjoflekemaaa.PureJoin
open Go.RowKit Go.Proofs.Ytfkgjoflekemaaa.PJoinForms Go.Proofs.YtfkgjoflekemaaaW.PrintWords Go.Proofs.Ytfkgjoflekemaaa.U Go.Proofs.Ytfkgjoflekemaaa.UJoin

theorem there_eq (xs : List Int) (i : Int) : join_there.f xs i = some (decide (0 ≤ i ∧ i < xs.length)) := by
  unfold join_there.f
  by_cases h : i ≥ 0
  · rw [if_pos h]
    by_cases h2 : i < xs.length <;> simp [h, h2]
  · rw [if_neg h]
    have : ¬ (0 ≤ i ∧ i < xs.length) := by omega
    simp [this]
theorem walk_up (xs : List Int) (hm : xs.length ≤ 1000000) (n : Nat) : ∀ k : Nat, k + n = xs.length → Ev (fun f => join_walk.l0 f xs k 1) (up xs k n) := by
  induction n with
  | zero =>
    intro k hk
    refine Ev.step (fun f => by rw [join_walk.l0]) ?_
    refine ev_bindc (there_eq xs k) ?_
    rw [decide_eq_false (by omega)]
    exact ev_neg (by simp) (ev_now _)
  | succ n ih =>
    intro k hk
    refine Ev.step (fun f => by rw [join_walk.l0]) ?_
    refine ev_bindc (there_eq xs k) ?_
    rw [decide_eq_true (by omega)]
    refine ev_pos rfl (ev_pos (by omega) (ev_pos (by omega) ?_))
    unfold UJoin.up
    refine ev_ite (fun h => ?_) (fun h => ?_)
    · rw [if_pos h, w64 (by omega) (by omega)]
      exact ih (k + 1) (by omega)
    · rw [if_neg h]
      exact ev_now _
theorem walk_down (xs : List Int) (hm : xs.length ≤ 1000000) (k : Nat) : k ≤ xs.length → Ev (fun f => join_walk.l0 f xs ((k : Int) - 1) (-1)) (down xs k) := by
  induction k with
  | zero =>
    intro hk
    refine Ev.step (fun f => by rw [join_walk.l0]) ?_
    refine ev_bindc (there_eq xs _) ?_
    rw [decide_eq_false (by omega)]
    exact ev_neg (by simp) (ev_now _)
  | succ k ih =>
    intro hk
    rw [show ((k + 1 : Nat) : Int) - 1 = k by omega]
    refine Ev.step (fun f => by rw [join_walk.l0]) ?_
    refine ev_bindc (there_eq xs _) ?_
    rw [decide_eq_true (by omega)]
    refine ev_pos rfl (ev_pos (by omega) (ev_pos (by omega) ?_))
    unfold down
    refine ev_ite (fun h => ?_) (fun h => ?_)
    · rw [if_pos h, w64 (by omega) (by omega)]
      exact ih (by omega)
    · rw [if_neg h]
      exact ev_now _
theorem ahead_ev (xs : List Int) (hm : xs.length ≤ 1000000) (i : Int) : Ev (fun k => join_Ahead.f k xs i) (aheadI xs i) := by
  unfold join_Ahead.f join_walk.f aheadI
  refine ev_bind (a := aheadI xs i) ?_ (ev_now _)
  refine ev_bindc (there_eq xs i) ?_
  unfold aheadI
  by_cases h : 0 ≤ i ∧ i < xs.length
  · rw [decide_eq_true h, if_pos h]
    refine ev_pos rfl ?_
    rw [w64 (by omega) (by omega)]
    have := walk_down xs hm i.toNat (by omega)
    rw [show ((i.toNat : Nat) : Int) - 1 = i + -1 by omega] at this
    exact this
  · rw [decide_eq_false h, if_neg h]
    exact ev_neg (by simp) (ev_now _)
theorem behind_ev (xs : List Int) (hm : xs.length ≤ 1000000) (i : Int) : Ev (fun k => join_Behind.f k xs i) (behindI xs i) := by
  unfold join_Behind.f join_walk.f behindI
  refine ev_bind (a := behindI xs i) ?_ (ev_now _)
  refine ev_bindc (there_eq xs i) ?_
  unfold behindI
  by_cases h : 0 ≤ i ∧ i < xs.length
  · rw [decide_eq_true h, if_pos h]
    refine ev_pos rfl ?_
    rw [w64 (by omega) (by omega)]
    have := walk_up xs hm (xs.length - (i.toNat + 1)) (i.toNat + 1) (by omega)
    rw [show ((i.toNat + 1 : Nat) : Int) = i + 1 by omega] at this
    exact this
  · rw [decide_eq_false h, if_neg h]
    exact ev_neg (by simp) (ev_now _)
theorem behindI_range (xs : List Int) (i : Int) : behindI xs i = -1 ∨ (i < behindI xs i ∧ behindI xs i < xs.length ∧ 0 ≤ i) := by
  unfold behindI
  by_cases h : 0 ≤ i ∧ i < xs.length
  · rw [if_pos h]
    unfold next
    rcases up_range xs (xs.length - (i.toNat + 1)) (i.toNat + 1) with h1 | h1
    · exact .inl h1
    · right; omega
  · rw [if_neg h]
    exact .inl rfl
theorem behind_eq (t : Int) : join_behind.f t = some (behindB t) := by
  unfold join_behind.f behindB
  by_cases h1 : t = 3
  · simp [h1]
  · by_cases h2 : t = 4
    · simp [h2]
    · by_cases h3 : t = 5 <;> simp [h1, h2, h3]
theorem ahead_eq (t : Int) : join_ahead.f t = some (aheadB t) := by
  unfold join_ahead.f aheadB
  by_cases h1 : t = 3
  · simp [h1]
  · by_cases h2 : t = 2
    · simp [h2]
    · by_cases h3 : t = 5 <;> simp [h1, h2, h3]
theorem joined_ev (xs : List Int) (hm : xs.length ≤ 1000000) (i : Int) : Ev (fun k => join_Joined.f k xs i) (joinedI xs i) := by
  unfold join_Joined.f
  refine ev_bind (behind_ev xs hm i) ?_
  unfold joinedI
  rcases behindI_range xs i with h | ⟨h1, h2, h3⟩
  · rw [h]
    exact ev_neg (by omega) (ev_now _)
  · refine ev_pos (by omega) (ev_pos (by omega) (ev_pos (by omega) (ev_bindc (behind_eq _) ?_)))
    rw [decide_eq_true (show 0 ≤ behindI xs i by omega)]
    cases behindB (rd xs i)
    · exact ev_neg (by simp) (ev_now _)
    · refine ev_pos rfl (ev_pos (by omega) (ev_pos (by omega) (ev_bindc (ahead_eq _) ?_)))
      exact ev_eq (ev_now _) (by simp)
theorem over_ev (xs : List Int) (hm : xs.length ≤ 1000000) (i : Int) : Ev (fun k => join_Over.f k xs i) (overI xs i) := by
  unfold join_Over.f
  refine ev_bindc (there_eq xs i) ?_
  have jt : Ev (fun k => join_Over.j0 k xs i true) false := Ev.step (fun k => by rw [join_Over.j0]) (ev_pos rfl (ev_now _))
  unfold overI
  by_cases h : 0 ≤ i ∧ i < xs.length
  · rw [decide_eq_true h]
    refine ev_pos rfl (ev_pos (by omega) (ev_pos (by omega) ?_))
    by_cases h2 : rd xs i = 1
    · rw [show (rd xs i != 1) = false by simp [h2], decide_eq_true h2]
      refine Ev.step (fun k => by rw [join_Over.j0]) (ev_neg (by simp) ?_)
      refine ev_bind (ahead_ev xs hm i) (ev_bind (joined_ev xs hm _) ?_)
      exact ev_eq (ev_now _) (by simp)
    · rw [show (rd xs i != 1) = true by simp [h2], decide_eq_false h2]
      exact ev_eq jt (by simp)
  · rw [decide_eq_false h]
    exact ev_neg (by simp) (ev_eq jt (by simp))

/-! ### the document's -/
theorem rup (xs : List Int) (hm : xs.length ≤ 1000000) (n : Nat) : ∀ k : Nat, k + n = xs.length → Ev (fun f => naskhref13_Behind.l0 f xs k) (up xs k n) := by
  induction n with
  | zero =>
    intro k hk
    refine Ev.step (fun f => by rw [naskhref13_Behind.l0]) ?_
    exact ev_neg (by omega) (ev_now _)
  | succ n ih =>
    intro k hk
    refine Ev.step (fun f => by rw [naskhref13_Behind.l0]) ?_
    refine ev_pos (by omega) (ev_pos (by omega) ?_)
    unfold UJoin.up
    refine ev_ite (fun h => ?_) (fun h => ?_)
    · rw [if_pos h, w64 (by omega) (by omega)]
      exact ih (k + 1) (by omega)
    · rw [if_neg h]
      exact ev_now _
theorem rdown (xs : List Int) (hm : xs.length ≤ 1000000) (k : Nat) : k ≤ xs.length → Ev (fun f => naskhref13_Ahead.l0 f xs ((k : Int) - 1)) (down xs k) := by
  induction k with
  | zero =>
    intro hk
    refine Ev.step (fun f => by rw [naskhref13_Ahead.l0]) ?_
    exact ev_neg (by omega) (ev_now _)
  | succ k ih =>
    intro hk
    rw [show ((k + 1 : Nat) : Int) - 1 = k by omega]
    refine Ev.step (fun f => by rw [naskhref13_Ahead.l0]) ?_
    refine ev_pos (by omega) (ev_pos (by omega) (ev_pos (by omega) ?_))
    unfold down
    refine ev_ite (fun h => ?_) (fun h => ?_)
    · rw [if_pos h, w64 (by omega) (by omega)]
      exact ih (by omega)
    · rw [if_neg h]
      exact ev_now _
theorem rahead_ev (xs : List Int) (hm : xs.length ≤ 1000000) (i : Int) : Ev (fun k => naskhref13_Ahead.f k xs i) (aheadI xs i) := by
  have jt : Ev (fun k => naskhref13_Ahead.j0 k xs i true) (-1) := Ev.step (fun k => by rw [naskhref13_Ahead.j0]) (ev_pos rfl (ev_now _))
  unfold naskhref13_Ahead.f aheadI
  by_cases h0 : i < 0
  · rw [if_neg (by omega)]
    exact ev_pos h0 jt
  · refine ev_neg h0 ?_
    by_cases h1 : i ≥ xs.length
    · rw [if_neg (by omega), decide_eq_true h1]
      exact jt
    · rw [if_pos (by omega), decide_eq_false h1]
      refine Ev.step (fun k => by rw [naskhref13_Ahead.j0]) (ev_neg (by simp) ?_)
      rw [w64 (by omega) (by omega)]
      have := rdown xs hm i.toNat (by omega)
      rw [show ((i.toNat : Nat) : Int) - 1 = i - 1 by omega] at this
      exact this
theorem rbehind_ev (xs : List Int) (hm : xs.length ≤ 1000000) (i : Int) : Ev (fun k => naskhref13_Behind.f k xs i) (behindI xs i) := by
  have jt : Ev (fun k => naskhref13_Behind.j0 k xs i true) (-1) := Ev.step (fun k => by rw [naskhref13_Behind.j0]) (ev_pos rfl (ev_now _))
  unfold naskhref13_Behind.f behindI
  by_cases h0 : i < 0
  · rw [if_neg (by omega)]
    exact ev_pos h0 jt
  · refine ev_neg h0 ?_
    by_cases h1 : i ≥ xs.length
    · rw [if_neg (by omega), decide_eq_true h1]
      exact jt
    · rw [if_pos (by omega), decide_eq_false h1]
      refine Ev.step (fun k => by rw [naskhref13_Behind.j0]) (ev_neg (by simp) ?_)
      rw [w64 (by omega) (by omega)]
      have := rup xs hm (xs.length - (i.toNat + 1)) (i.toNat + 1) (by omega)
      rw [show ((i.toNat + 1 : Nat) : Int) = i + 1 by omega] at this
      exact this
theorem rjoined_ev (xs : List Int) (hm : xs.length ≤ 1000000) (i : Int) : Ev (fun k => naskhref13_Joined.f k xs i) (joinedI xs i) := by
  unfold naskhref13_Joined.f
  refine ev_bind (rbehind_ev xs hm i) ?_
  unfold joinedI
  rcases behindI_range xs i with h | ⟨h1, h2, h3⟩
  · rw [h]
    exact ev_pos (by omega) (ev_now _)
  · refine ev_neg (by omega) (ev_pos (by omega) (ev_pos (by omega) (ev_pos (by omega) (ev_pos (by omega) ?_))))
    rw [decide_eq_true (show 0 ≤ behindI xs i by omega)]
    generalize rd xs i = a
    generalize rd xs (behindI xs i) = b
    refine ev_const ?_
    unfold behindB aheadB
    by_cases a1 : a = 3 <;> by_cases a2 : a = 4 <;> by_cases a3 : a = 5 <;> by_cases b1 : b = 3 <;> by_cases b2 : b = 2 <;> simp [a1, a2, a3, b1, b2] <;> omega
theorem rforms_loop (xs : List Int) (hm : xs.length ≤ 1000000) (n : Nat) : ∀ (i : Nat) (out : List Int), i + n = xs.length → out = (List.range i).map (fm xs) →
    Ev (fun k => naskhref13_Forms.l0 k xs out i) ((List.range xs.length).map (fm xs)) := by
  induction n with
  | zero =>
    intro i out hi ho
    refine Ev.step (fun k => by rw [naskhref13_Forms.l0]) (ev_neg (by omega) (ev_eq (ev_now _) ?_))
    rw [ho, show i = xs.length by omega]
  | succ n ih =>
    intro i out hi ho
    have key : ∀ y, y = fm xs i → Ev (fun k => naskhref13_Forms.l0 k xs (out ++ [y]) (wrap64 ((i : Int) + 1))) ((List.range xs.length).map (fm xs)) := by
      rintro y rfl
      rw [w64 (by omega) (by omega)]
      exact ih (i + 1) _ (by omega) (by rw [ho, List.range_succ, List.map_append]; rfl)
    have hlen : out.length < 17592186044416 := by rw [ho]; simp; omega
    refine Ev.step (fun k => by rw [naskhref13_Forms.l0]) (ev_pos (by omega) (ev_pos (by omega) ?_))
    refine ev_bind (rahead_ev xs hm i) (ev_bind (rjoined_ev xs hm _) ?_)
    generalize hA : joinedI xs (aheadI xs i) = A
    have yes : shapesB (rd xs i) = true → Ev (fun k => naskhref13_Forms.j1 k xs out i A 0 true) ((List.range xs.length).map (fm xs)) := by
      intro hs
      have hf : fm xs i = formOf A (joinedI xs i) := by unfold fm; rw [if_pos hs, hA]
      have j2 : ∀ b, b = (A && joinedI xs i) → Ev (fun k => naskhref13_Forms.j2 k xs out i A b) ((List.range xs.length).map (fm xs)) := by
        rintro b rfl
        refine Ev.step (fun k => by rw [naskhref13_Forms.j2]) ?_
        cases A
        · refine ev_neg (by simp) (ev_neg (by simp) (ev_bind (rjoined_ev xs hm _) ?_))
          cases hj : joinedI xs i
          · exact ev_neg (by simp) (ev_pos hlen (key _ (by rw [hf, hj]; rfl)))
          · exact ev_pos rfl (ev_pos hlen (key _ (by rw [hf, hj]; rfl)))
        · cases hj : joinedI xs i
          · refine ev_neg (by simp) (ev_pos rfl (ev_pos hlen (key _ (by rw [hf, hj]; rfl))))
          · refine ev_pos (by simp) (ev_pos hlen (key _ (by rw [hf, hj]; rfl)))
      refine Ev.step (fun k => by rw [naskhref13_Forms.j1]) (ev_pos rfl ?_)
      cases A
      · exact ev_neg (by simp) (j2 _ (by simp))
      · exact ev_pos rfl (ev_bind (rjoined_ev xs hm _) (j2 _ (by simp)))
    refine ev_ite (fun h => yes (by rw [h]; rfl)) (fun h1 => ev_ite (fun h => yes (by rw [h]; rfl)) (fun h2 => ?_))
    by_cases h3 : rd xs i = 4
    · rw [show (rd xs i == 4) = true by simpa using h3]
      exact yes (by rw [h3]; rfl)
    · rw [show (rd xs i == 4) = false by simpa using h3]
      refine Ev.step (fun k => by rw [naskhref13_Forms.j1]) (ev_neg (by simp) (ev_pos hlen (key _ ?_)))
      unfold fm
      rw [if_neg]
      unfold shapesB
      simp [h1, h2, h3]
theorem rforms_ev (xs : List Int) (hm : xs.length ≤ 1000000) : Ev (fun k => naskhref13_Forms.f k xs) (formsOf xs) := by
  rw [formsOf_eq]
  exact rforms_loop xs hm xs.length 0 [] (by omega) rfl
end Go.Proofs.Ytfkgjoflekemaaa.PureJoin
/-! join.Forms: what it answers, as a plain function of the types; its closure and its helpers. -/
namespace Go.Proofs.Ytfkgjoflekemaaa.CJoin
open Go.RowKit Go.Proofs.Ytfkgjoflekemaaa.PJoinForms Go.Proofs.YtfkgjoflekemaaaW.PrintWords Go.Proofs.YtfkgjoflekemaaaW.PrintLast Go.Proofs.YtfkgjoflekemaaaW.PrintMore Go.Proofs.Ytfkgjoflekemaaa.U Go.Proofs.Ytfkgjoflekemaaa.UJoin
set_option linter.unusedVariables false
set_option linter.unusedSimpArgs false
theorem shapes_any (t : Int) (w : World) : Calls Try.prog 64 #[.int .i64 t] w fun e w' => e = .returned (.bool (shapesB t)) ∧ w = w' := by
  go_enter Try.func64, Try.ntmps64
  go_wp2
  all_goals
    go_ret
    refine ⟨?_, rfl⟩
    congr 2
    unfold shapesB
    simp_all
theorem form_any (b a : Bool) (w : World) : Calls Try.prog 65 #[.bool b, .bool a] w fun e w' => e = .returned (.int .i64 (formOf b a)) ∧ w = w' := by
  cases b <;> cases a
  all_goals
    go_enter Try.func65, Try.ntmps65
    go_wp2
    go_ret
    exact ⟨rfl, rfl⟩
structure FS (w0 w : World) (gl gt gb gp go cap : Nat) (A : Option Addr) (cA : Nat) (types out : List Int) (last : Int) (bef : Bool) : Prop where
  l : w.heap[gl]? = some (.cells #[.int .i64 last] 3 (0, 0))
  t : w.heap[gt]? = some (.cells #[.slice A types.length cA] 22 (0, 0))
  b : w.heap[gb]? = some (.cells #[.bool bef] 4 (0, 0))
  o : w.heap[gp]? = some (.cells #[.slice (some ⟨go, 0, none⟩) types.length cap] 22 (0, 0))
  r : Kd.R (Kd.int .i64) 3 w w0.heap.size (fun _ => True) (.slice (some ⟨go, 0, none⟩) types.length cap) out
  c : Kd.C (Kd.int .i64) w0 A types.length types
  bw : Below w0.heap.size w0 w
  nl : gl ≠ go
  bl : w0.heap.size ≤ gl
  bb : w0.heap.size ≤ gb
theorem FS.far {w0 w w' : World} {gl gt gb gp go cap : Nat} {A : Option Addr} {cA : Nat} {types out : List Int} {last : Int} {bef : Bool} (h : FS w0 w gl gt gb gp go cap A cA types out last bef) (hb : Below w.heap.size w w') : FS w0 w' gl gt gb gp go cap A cA types out last bef :=
  ⟨blk_below h.l hb, blk_below h.t hb, blk_below h.b hb, blk_below h.o hb, Kd.R_below h.r hb, h.c, below_step h.bw hb, h.nl, h.bl, h.bb⟩
set_option maxRecDepth 100000 in
set_option maxHeartbeats 1000000 in
theorem settle_yes (w0 w : World) (gl gt gb gp go cap : Nat) (A : Option Addr) (cA : Nat) (types out : List Int) (last : Int) (bef aft : Bool) (h : FS w0 w gl gt gb gp go cap A cA types out last bef)
    (h0 : 0 ≤ last) (h1 : last < types.length) (h2 : shapesB (rd types last) = true) :
    Calls Try.prog 63 #[.bool aft, .pointer (some ⟨gl, 0, none⟩), .pointer (some ⟨gt, 0, none⟩), .pointer (some ⟨gb, 0, none⟩), .pointer (some ⟨gp, 0, none⟩)] w fun e w' => e = .returned (.tuple #[]) ∧ ∃ n, w' = (w.drewN n).setCell ⟨go, last.toNat, none⟩ (.int .i64 (formOf bef aft)) := by
  have hl : w.cell? ⟨gl, 0, none⟩ = some (.int .i64 last) := (blk_cell h.l 0).trans rfl
  have ht : w.cell? ⟨gt, 0, none⟩ = some (.slice A types.length cA) := (blk_cell h.t 0).trans rfl
  have hb : w.cell? ⟨gb, 0, none⟩ = some (.bool bef) := (blk_cell h.b 0).trans rfl
  have ho : w.cell? ⟨gp, 0, none⟩ = some (.slice (some ⟨go, 0, none⟩) types.length cap) := (blk_cell h.o 0).trans rfl
  obtain ⟨ad, ea, hx⟩ := Kd.at_int (Kd.C_below h.c h.bw) last h0 h1
  cases ea
  obtain ⟨hy, hz⟩ := Kd.R_celln (0 : Int) h.r last h0 h1
  go_enter Try.func63, Try.ntmps63
  go_wp2_with (go_at_call 64; refine (shapes_any _ _).mono ?_; rintro e w' ⟨rfl, rfl⟩; rw [h2])
  go_still_tail 6, (by kernel_rfl)
  still_call ((form_any _ _ _).mono fun e w' h => ⟨h.1, h.2.symm⟩)
  repeat still_step
  refine wpStill_nil ?_
  change wpList _ _ _ _ _ w.drew
  go_wp2
  go_end0
  exact ⟨rfl, 1, rfl⟩

theorem settle_no (w0 w : World) (gl gt gb gp go cap : Nat) (A : Option Addr) (cA : Nat) (types out : List Int) (last : Int) (bef aft : Bool) (h : FS w0 w gl gt gb gp go cap A cA types out last bef)
    (h1 : last < types.length) (h2 : ¬ (0 ≤ last ∧ shapesB (rd types last) = true)) :
    Calls Try.prog 63 #[.bool aft, .pointer (some ⟨gl, 0, none⟩), .pointer (some ⟨gt, 0, none⟩), .pointer (some ⟨gb, 0, none⟩), .pointer (some ⟨gp, 0, none⟩)] w fun e w' => e = .returned (.tuple #[]) ∧ w' = w := by
  have hl : w.cell? ⟨gl, 0, none⟩ = some (.int .i64 last) := (blk_cell h.l 0).trans rfl
  have ht : w.cell? ⟨gt, 0, none⟩ = some (.slice A types.length cA) := (blk_cell h.t 0).trans rfl
  by_cases h0 : 0 ≤ last
  · obtain ⟨ad, ea, hx⟩ := Kd.at_int (Kd.C_below h.c h.bw) last h0 h1
    cases ea
    have h3 : shapesB (rd types last) = false := by
      cases hb : shapesB (rd types last)
      · rfl
      · exact absurd ⟨h0, hb⟩ h2
    have H3 := Lib.hid h3
    clear h2 h3
    go_enter Try.func63, Try.ntmps63
    go_wp2_with (go_at_call 64; refine (shapes_any _ _).mono ?_; rintro e w' ⟨rfl, rfl⟩; rw [H3.out])
    go_end0
    exact ⟨rfl, rfl⟩
  · clear h2
    have hb : decide (0 ≤ last) = false := decide_eq_false h0
    go_enter Try.func63, Try.ntmps63
    go_wp2
    go_end0
    exact ⟨rfl, rfl⟩
theorem settle (w0 w : World) (gl gt gb gp go cap : Nat) (A : Option Addr) (cA : Nat) (types out : List Int) (last : Int) (bef aft : Bool) (h : FS w0 w gl gt gb gp go cap A cA types out last bef)
    (h1 : last < types.length) :
    Calls Try.prog 63 #[.bool aft, .pointer (some ⟨gl, 0, none⟩), .pointer (some ⟨gt, 0, none⟩), .pointer (some ⟨gb, 0, none⟩), .pointer (some ⟨gp, 0, none⟩)] w fun e w' => e = .returned (.tuple #[]) ∧ FS w0 w' gl gt gb gp go cap A cA types (outAfter types out last bef aft) last bef := by
  by_cases hc : 0 ≤ last ∧ shapesB (rd types last) = true
  · refine (settle_yes w0 w gl gt gb gp go cap A cA types out last bef aft h hc.1 h1 hc.2).mono ?_
    rintro e w' ⟨he, n, rfl⟩
    have hb : w0.heap.size ≤ go := Kd.R_base h.r go rfl
    have h' := Kd.R_putg (Kd.R_drewN h.r n) last (formOf bef aft)
    refine ⟨he, ⟨?_, ?_, ?_, ?_, ?_, h.c, (pw_below_drewN h.bw n).setCell hb _, h.nl, h.bl, h.bb⟩⟩
    · exact blk_grown (blk_drewN h.l n) h'.2 (by simpa using h.nl)
    · exact blk_grown (blk_drewN h.t n) h'.2 (Kd.R_ne h.r h.t (by decide))
    · exact blk_grown (blk_drewN h.b n) h'.2 (Kd.R_ne h.r h.b (by decide))
    · exact blk_grown (blk_drewN h.o n) h'.2 (Kd.R_ne h.r h.o (by decide))
    · unfold outAfter
      rw [if_pos hc]
      exact h'.1
  · refine (settle_no w0 w gl gt gb gp go cap A cA types out last bef aft h h1 hc).mono ?_
    rintro e w' ⟨he, rfl⟩
    refine ⟨he, ?_⟩
    unfold outAfter
    rw [if_neg hc]
    exact h

theorem behind_any (t : Int) (w : World) : Calls Try.prog 66 #[.int .i64 t] w fun e w' => e = .returned (.bool (behindB t)) ∧ w = w' := by
  go_enter Try.func66, Try.ntmps66
  go_wp2
  all_goals
    go_ret
    refine ⟨?_, rfl⟩
    congr 2
    unfold behindB
    simp_all
theorem ahead_any (t : Int) (w : World) : Calls Try.prog 67 #[.int .i64 t] w fun e w' => e = .returned (.bool (aheadB t)) ∧ w = w' := by
  go_enter Try.func67, Try.ntmps67
  go_wp2
  all_goals
    go_ret
    refine ⟨?_, rfl⟩
    congr 2
    unfold aheadB
    simp_all
theorem FS.put {w0 w : World} {gl gt gb gp go cap : Nat} {A : Option Addr} {cA : Nat} {types out : List Int} {last : Int} {bef : Bool} (h : FS w0 w gl gt gb gp go cap A cA types out last bef) (x : Int) (m : Bool) :
    FS w0 ((w.setCell ⟨gl, 0, none⟩ (.int .i64 x)).setCell ⟨gb, 0, none⟩ (.bool m)) gl gt gb gp go cap A cA types out x m := by
  have hlb : gl ≠ gb := blk_ne h.l h.b (by decide)
  have hlt : gl ≠ gt := blk_ne h.l h.t (by decide)
  have hlp : gl ≠ gp := blk_ne h.l h.o (by decide)
  have hbt : gb ≠ gt := blk_ne h.b h.t (by decide)
  have hbp : gb ≠ gp := blk_ne h.b h.o (by decide)
  have hbo : some gb ≠ (Value.slice (some ⟨go, 0, none⟩) types.length cap).ownBlock := Kd.R_ne h.r h.b (by decide)
  refine ⟨?_, ?_, ?_, ?_, ?_, h.c, (h.bw.setCell h.bl _).setCell h.bb _, h.nl, h.bl, h.bb⟩
  · exact blk_far (blk_set h.l 0 _) hlb _
  · exact blk_far (blk_far h.t hlt.symm _) hbt.symm _
  · exact blk_set (blk_far h.b hlb.symm _) 0 _
  · exact blk_far (blk_far h.o hlp.symm _) hbp.symm _
  · exact Kd.R_grown1 (Kd.R_grown1 h.r rfl (grown_set _ gl 0 _) (by simpa [Value.ownBlock] using h.nl)) rfl (grown_set _ gb 0 _) hbo
set_option maxRecDepth 100000 in
set_option maxHeartbeats 1000000 in
theorem forms_any (A : Option Addr) (cA : Nat) (types : List Int) (w : World) (hm : types.length ≤ 1000000) (hc : Kd.C (Kd.int .i64) w A types.length types) :
    Calls Try.prog 24 #[.slice A types.length cA] w fun e w' => ∃ v, e = .returned v ∧ Kd.R (Kd.int .i64) 3 w' w.heap.size (fun _ => True) v (formsOf types) ∧ Below w.heap.size w w' := by
  have HC := Aside0.mk hc
  clear hc
  go_enter Try.func24, Try.ntmps24
  go_wp2_with (first | (refine Kd.R_make (Kd.int .i64) (w0 := w) w.heap.size 3 rfl (N := 12) rfl 22 _ _ rfl types.length rfl rfl Try.underlying22 (.int .i64 0) 8 info3 rfl (by decide) (by omega) 0 (ok := fun _ => True) (okp := fun _ => True) rfl (fun _ hk => hk) trivial (by omega) (by omega) (below_alloc (Below.refl _ _) _) (by simp) ?_; intro v w1 hv hb hg hnew; obtain ⟨go, cap, ev, hgo⟩ := R_form hv (hnew.imp fun _ h => h.1); subst ev; have HV := Aside0.mk hv; have HB := Aside0.mk hb; have HT : Aside0 (w1.heap[w.heap.size]? = some (.cells #[.slice A types.length cA] 22 (0, 0))) := ⟨blk_grown (blk_new w _) hg (by simp)⟩; clear hv hb hg hnew hgo; have hct : w1.cell? ⟨w.heap.size, 0, none⟩ = some (.slice A types.length cA) := (blk_cell HT.out 0).trans rfl; have hlt : w.heap.size < w1.heap.size := blk_lt HT.out; have hlt1 : w.heap.size < w1.heap.size + 1 := Nat.lt_succ_of_lt hlt; have hlt2 : w.heap.size < w1.heap.size + 1 + 1 := Nat.lt_succ_of_lt hlt1; simp only [List.length_replicate, Int.toNat_natCast]))
  clear hct hlt hlt1 hlt2
  obtain ⟨gl, egl⟩ : ∃ gl, gl = w1.heap.size + 1 := ⟨_, rfl⟩
  obtain ⟨gb, egb⟩ : ∃ gb, gb = w1.heap.size + 1 + 1 := ⟨_, rfl⟩
  obtain ⟨gp, egp⟩ : ∃ gp, gp = w1.heap.size := ⟨_, rfl⟩
  obtain ⟨gt, egt⟩ : ∃ gt, gt = w.heap.size := ⟨_, rfl⟩
  have HF : Aside0 (FS w (((w1.alloc (Obj.cells #[Value.slice (some { block := go, off := 0 }) types.length cap] 22)).alloc (Obj.cells #[Value.int IntKind.i64 (-1)] 3)).alloc (Obj.cells #[Value.bool false] 4)) gl gt gb gp go cap A cA types (List.replicate types.length 0) (-1) false) := by
    subst egl egb egp egt
    have hv := HV.out
    simp only [List.length_replicate, Int.toNat_natCast] at hv
    have hlt := Kd.R_lt hv go rfl
    refine ⟨⟨?_, ?_, ?_, ?_, ?_, HC.out, ?_, ?_, ?_, ?_⟩⟩
    · have := blk_alloc (blk_new (w1.alloc (Obj.cells #[Value.slice (some { block := go, off := 0 }) types.length cap] 22)) (Obj.cells #[Value.int IntKind.i64 (-1)] 3)) (Obj.cells #[Value.bool false] 4)
      simpa using this
    · exact blk_alloc (blk_alloc (blk_alloc HT.out _) _) _
    · have := blk_new ((w1.alloc (Obj.cells #[Value.slice (some { block := go, off := 0 }) types.length cap] 22)).alloc (Obj.cells #[Value.int IntKind.i64 (-1)] 3)) (Obj.cells #[Value.bool false] 4)
      simpa using this
    · exact blk_alloc (blk_alloc (blk_new _ _) _) _
    · exact Kd.R_alloc (Kd.R_alloc (Kd.R_alloc hv _) _) _
    · exact below_alloc (below_alloc (below_alloc HB.out _) _) _
    · omega
    · have := HB.out.size; omega
    · have := HB.out.size; omega
  rw [← egb, ← egl, ← egp, ← egt]
  clear egl egb egp egt
  go_loopw [16] (fun v wr => ∃ k : Nat, v = .int .i64 k ∧ k ≤ types.length ∧ Aside0 (FS w wr gl gt gb gp go cap A cA types (jrun types k).2.2 (jrun types k).1 (jrun types k).2.1)) (fun v _ => types.length - (intOf v).toNat)
  case atStart => exact ⟨0, rfl, Nat.zero_le _, HF⟩
  case round =>
    clear HF
    obtain ⟨k, rfl, hk, HF⟩ := hrel
    have hrl := jrun_last types k
    generalize hs : jrun types k = s at HF hrl
    have HS := Aside0.mk hs
    clear hs
    obtain ⟨last, bef, out⟩ := s
    dsimp only at HF hrl
    obtain ⟨hr1, hr2⟩ := hrl
    have hF := HF.out
    have hcl : wr.cell? ⟨gl, 0, none⟩ = some (.int .i64 last) := (blk_cell hF.l 0).trans rfl
    have hct : wr.cell? ⟨gt, 0, none⟩ = some (.slice A types.length cA) := (blk_cell hF.t 0).trans rfl
    have hcb : wr.cell? ⟨gb, 0, none⟩ = some (.bool bef) := (blk_cell hF.b 0).trans rfl
    have hco : wr.cell? ⟨gp, 0, none⟩ = some (.slice (some ⟨go, 0, none⟩) types.length cap) := (blk_cell hF.o 0).trans rfl
    clear hF
    by_cases hlt : k < types.length
    · have hltI : (k : Int) < (types.length : Int) := by omega
      have hkI : 0 ≤ (k : Int) := by omega
      obtain ⟨ad, ea, hx⟩ := Kd.at_int (Kd.C_below HC.out HF.out.bw) (k : Int) hkI hltI
      cases ea
      simp only [Int.toNat_natCast] at hx
      by_cases ht : rd types (k : Int) = 1
      · have ht' : (rd types (k : Int) == 1) = true := by simpa using ht
        have HT' := Aside0.mk ht
        clear ht
        go_wp2
        refine ⟨⟨k + 1, by go_num, by omega, ⟨?_⟩⟩, by simp [intOf]; omega⟩
        have : jrun types (k + 1) = jrun types k := by rw [jrun, stepF, if_pos HT'.out]
        rw [this, HS.out]
        exact HF.out
      · have ht' : (rd types (k : Int) == 1) = false := by simpa using ht
        have HN : Aside0 (jrun types (k + 1) = ((k : Int), meetsB types last (rd types k), outAfter types out last bef (meetsB types last (rd types k)))) := ⟨by rw [jrun, stepF, if_neg ht, HS.out]⟩
        clear ht
        have fin : ∀ (wx : World), FS w wx gl gt gb gp go cap (some ad) cA types (outAfter types out last bef (meetsB types last (rd types k))) last bef → Aside0 (FS w ((wx.setCell ⟨gl, 0, none⟩ (.int .i64 k)).setCell ⟨gb, 0, none⟩ (.bool (meetsB types last (rd types k)))) gl gt gb gp go cap (some ad) cA types (jrun types (k + 1)).2.2 (jrun types (k + 1)).1 (jrun types (k + 1)).2.1) := by
          intro wx hx
          rw [HN.out]
          exact ⟨hx.put _ _⟩
        by_cases h0 : 0 ≤ last
        · have hlI : last < (types.length : Int) := by omega
          obtain ⟨ad2, ea2, hx2⟩ := Kd.at_int (Kd.C_below HC.out HF.out.bw) last h0 hlI
          cases ea2
          have hg0 : decide (0 ≤ last) = true := decide_eq_true h0
          have HM : Aside0 (meetsB types last (rd types k) = (behindB (rd types last) && aheadB (rd types k))) := ⟨by unfold meetsB; rw [hg0]; simp⟩
          have HBH : Aside0 (∀ wx, Calls Try.prog 66 #[.int .i64 (rd types last)] wx fun e w' => e = .returned (.bool (behindB (rd types last))) ∧ wx = w') := ⟨fun wx => behind_any _ wx⟩
          have HAH : Aside0 (∀ wx, Calls Try.prog 67 #[.int .i64 (rd types k)] wx fun e w' => e = .returned (.bool (aheadB (rd types k))) ∧ wx = w') := ⟨fun wx => ahead_any _ wx⟩
          generalize behindB (rd types last) = bb at HM HBH
          generalize aheadB (rd types k) = aa at HM HAH
          generalize meetsB types last (rd types k) = mm at HM HN fin
          obtain rfl : mm = (bb && aa) := HM.out
          have FIN := Aside0.mk fin
          clear fin HM hg0
          have hS : ∀ m, Calls Try.prog 63 #[.bool m, .pointer (some ⟨gl, 0, none⟩), .pointer (some ⟨gt, 0, none⟩), .pointer (some ⟨gb, 0, none⟩), .pointer (some ⟨gp, 0, none⟩)] wr fun e w' => e = .returned (.tuple #[]) ∧ FS w w' gl gt gb gp go cap (some ad) cA types (outAfter types out last bef m) last bef := fun m => settle w wr gl gt gb gp go cap _ cA types out last bef m HF.out (by omega)
          have SS := Aside0.mk hS
          clear hS
          cases bb
          · go_wp2_with (go_at_call 66; refine (HBH.out _).mono ?_; rintro e w' ⟨rfl, rfl⟩)
            refine (SS.out false).mono ?_
            rintro e w2 ⟨rfl, hF2⟩
            have hcl2 : w2.cell? ⟨gl, 0, none⟩ = some (.int .i64 last) := (blk_cell hF2.l 0).trans rfl
            have hcb2 : w2.cell? ⟨gb, 0, none⟩ = some (.bool bef) := (blk_cell hF2.b 0).trans rfl
            have hfl2 := blk_frozen hF2.l 0
            have hfb2 := blk_frozen hF2.b 0
            have hne : gl ≠ gb := blk_ne hF2.l hF2.b (by decide)
            have F2 := FIN.out w2 hF2
            clear hF2
            go_wp2
            exact ⟨⟨k + 1, by go_num, by omega, F2⟩, by simp [intOf]; omega⟩
          · cases aa
            all_goals
              go_wp2_with (first | (go_at_call 66; refine (HBH.out _).mono ?_; rintro e w' ⟨rfl, rfl⟩) | (go_at_call 67; refine (HAH.out _).mono ?_; rintro e w' ⟨rfl, rfl⟩))
              refine (SS.out _).mono ?_
              rintro e w2 ⟨rfl, hF2⟩
              have hcl2 : w2.cell? ⟨gl, 0, none⟩ = some (.int .i64 last) := (blk_cell hF2.l 0).trans rfl
              have hcb2 : w2.cell? ⟨gb, 0, none⟩ = some (.bool bef) := (blk_cell hF2.b 0).trans rfl
              have hfl2 := blk_frozen hF2.l 0
              have hfb2 := blk_frozen hF2.b 0
              have hne : gl ≠ gb := blk_ne hF2.l hF2.b (by decide)
              have F2 := FIN.out w2 hF2
              clear hF2
              go_wp2
              exact ⟨⟨k + 1, by go_num, by omega, F2⟩, by simp [intOf]; omega⟩
        · have hg0 : decide (0 ≤ last) = false := decide_eq_false h0
          have HM : Aside0 (meetsB types last (rd types k) = false) := ⟨by unfold meetsB; rw [hg0]; simp⟩
          rw [HM.out] at fin
          have FIN := Aside0.mk fin
          clear fin
          go_wp2_with fail
          refine (settle w wr gl gt gb gp go cap _ cA types out last bef false HF.out (by omega)).mono ?_
          rintro e w2 ⟨rfl, hF2⟩
          have hcl2 : w2.cell? ⟨gl, 0, none⟩ = some (.int .i64 last) := (blk_cell hF2.l 0).trans rfl
          have hcb2 : w2.cell? ⟨gb, 0, none⟩ = some (.bool bef) := (blk_cell hF2.b 0).trans rfl
          have hfl2 := blk_frozen hF2.l 0
          have hfb2 := blk_frozen hF2.b 0
          have hne : gl ≠ gb := blk_ne hF2.l hF2.b (by decide)
          have F2 := FIN.out w2 hF2
          clear hF2
          go_wp2
          exact ⟨⟨k + 1, by go_num, by omega, F2⟩, by simp [intOf]; omega⟩
    · have ek : k = types.length := by omega
      have EK := Aside0.mk ek
      clear ek
      go_wp2_with fail
      refine (settle w wr gl gt gb gp go cap _ cA types out last bef false HF.out (by omega)).mono ?_
      rintro e w2 ⟨rfl, hF2⟩
      have hco2 : w2.cell? ⟨gp, 0, none⟩ = some (.slice (some ⟨go, 0, none⟩) types.length cap) := (blk_cell hF2.o 0).trans rfl
      have F2 := Aside0.mk hF2
      clear hF2
      go_wp2
      go_ret
      refine ⟨_, rfl, ?_, F2.out.bw⟩
      have h2 := F2.out.r
      unfold formsOf
      rw [← EK.out, HS.out]
      rw [EK.out]
      exact h2
end Go.Proofs.Ytfkgjoflekemaaa.CJoin
/-! join's awake, and join.Forms over a slice that reads as a list. -/
namespace Go.Proofs.Ytfkgjoflekemaaa.CJoin2
open Go.RowKit Go.Proofs.Ytfkgjoflekemaaa.PJoinForms Go.Proofs.YtfkgjoflekemaaaW.PrintWords Go.Proofs.YtfkgjoflekemaaaW.PrintLast Go.Proofs.YtfkgjoflekemaaaW.PrintMore Go.Proofs.Ytfkgjoflekemaaa.U Go.Proofs.Ytfkgjoflekemaaa.CJoin Go.Proofs.Ytfkgjoflekemaaa.CBase Go.Proofs.Ytfkgjoflekemaaa.UJoin
set_option linter.unusedVariables false
set_option linter.unusedSimpArgs false
theorem forms_c (v : Value) (types : List Int) (w : World) (h : SL w v types) (hm : types.length ≤ 1000000) : Calls Try.prog 24 #[v] w fun e w' => ∃ u, e = .returned u ∧ SL w' u (formsOf types) ∧ Below w.heap.size w w' := by
  obtain ⟨A, c, rfl, hc, h⟩ := h
  exact (forms_any A c types w hm h).mono fun e w' ⟨u, he, hr, hb⟩ => ⟨u, he, SLk.of_R hr, hb⟩
set_option maxRecDepth 100000 in
set_option maxHeartbeats 1000000 in
theorem awake_c (w : World) : Calls Try.prog 23 #[] w fun e w' => e = .returned (.bool true) ∧ Below w.heap.size w w' := by
  go_enter Try.func23, Try.ntmps23
  go_wp2_with fail
  refine (forms_c _ [3, 1, 2] _ (SL_lit w 3 [3, 1, 2] (by decide)) (by decide)).mono ?_
  rintro e w1 ⟨u, rfl, hu, hb⟩
  have HB : Aside0 (Below w.heap.size w w1) := ⟨below_step (below_alloc (Below.refl _ _) _) hb⟩
  have HU := Aside0.mk hu
  clear hu hb
  go_wp2_with fail
  refine (equal_c (xs := formsOf [3, 1, 2]) (ys := [3, 0, 2]) (SLk.below HU.out (below_alloc (Below.refl _ _) _)) (SL_lit w1 3 [3, 0, 2] (by decide)) (by decide)).mono ?_
  rw [show decide (formsOf [3, 1, 2] = [3, 0, 2]) = true by decide +kernel]
  rintro e w2 ⟨rfl, hb⟩
  have HB2 : Aside0 (Below w.heap.size w w2) := ⟨below_step (below_alloc HB.out _) hb⟩
  clear hb HU HB
  go_wp2_with fail
  refine (join_Over.calls 20 _ _ [3, 1, 2] 1 true _ ?_ (by decide) (by decide +kernel)).mono ?_
  · obtain ⟨A, c, e, _, h⟩ := SL_lit w2 3 [3, 1, 2] (by decide)
    injection e with e1 e2 e3
    rw [e1]
    exact h
  rintro e w3 ⟨rfl, hb⟩
  have HB3 : Aside0 (Below w.heap.size w w3) := ⟨below_step (below_alloc HB2.out _) hb.below⟩
  clear hb HB2
  go_wp2
  go_ret
  exact ⟨rfl, HB3.out⟩
end Go.Proofs.Ytfkgjoflekemaaa.CJoin2
/-! Contracts of join's functions, and of the document's, over a slice that reads as a list. -/
namespace Go.Proofs.Ytfkgjoflekemaaa.CJoin3
open Go.RowKit Go.Proofs.Ytfkgjoflekemaaa.PJoinForms Go.Proofs.YtfkgjoflekemaaaW.PrintWords Go.Proofs.YtfkgjoflekemaaaW.PrintMore Go.Proofs.Ytfkgjoflekemaaa.U Go.Proofs.Ytfkgjoflekemaaa.CJoin Go.Proofs.Ytfkgjoflekemaaa.CJoin2 Go.Proofs.Ytfkgjoflekemaaa.CBase Go.Proofs.Ytfkgjoflekemaaa.UJoin Go.Proofs.Ytfkgjoflekemaaa.PureJoin
set_option linter.unusedVariables false
set_option linter.unusedSimpArgs false
section
variable {v : Value} {xs : List Int} {w : World} (h : SL w v xs) (hm : xs.length ≤ 1000000) (i : Int)
include h hm
theorem ahead_c : Calls Try.prog 26 #[v, .int .i64 i] w fun e w' => e = .returned (.int .i64 (aheadI xs i)) ∧ Below w.heap.size w w' := by
  obtain ⟨A, c, rfl, hc, h⟩ := h
  obtain ⟨k, hk⟩ := (ahead_ev xs hm i).rounds
  exact (join_Ahead.calls k A c xs i _ w h hc hk).mono fun e w' h => ⟨h.1, h.2.below⟩
theorem behind_c : Calls Try.prog 28 #[v, .int .i64 i] w fun e w' => e = .returned (.int .i64 (behindI xs i)) ∧ Below w.heap.size w w' := by
  obtain ⟨A, c, rfl, hc, h⟩ := h
  obtain ⟨k, hk⟩ := (behind_ev xs hm i).rounds
  exact (join_Behind.calls k A c xs i _ w h hc hk).mono fun e w' h => ⟨h.1, h.2.below⟩
theorem joined_c : Calls Try.prog 30 #[v, .int .i64 i] w fun e w' => e = .returned (.bool (joinedI xs i)) ∧ Below w.heap.size w w' := by
  obtain ⟨A, c, rfl, hc, h⟩ := h
  obtain ⟨k, hk⟩ := (joined_ev xs hm i).rounds
  exact (join_Joined.calls k A c xs i _ w h hc hk).mono fun e w' h => ⟨h.1, h.2.below⟩
theorem over_c : Calls Try.prog 32 #[v, .int .i64 i] w fun e w' => e = .returned (.bool (overI xs i)) ∧ Below w.heap.size w w' := by
  obtain ⟨A, c, rfl, hc, h⟩ := h
  obtain ⟨k, hk⟩ := (over_ev xs hm i).rounds
  exact (join_Over.calls k A c xs i _ w h hc hk).mono fun e w' h => ⟨h.1, h.2.below⟩
theorem rahead_c : Calls Try.prog 27 #[v, .int .i64 i] w fun e w' => e = .returned (.int .i64 (aheadI xs i)) ∧ Below w.heap.size w w' := by
  obtain ⟨A, c, rfl, hc, h⟩ := h
  obtain ⟨k, hk⟩ := (rahead_ev xs hm i).rounds
  exact (naskhref13_Ahead.calls k A c xs i _ w h hc hk).mono fun e w' h => ⟨h.1, h.2.below⟩
theorem rbehind_c : Calls Try.prog 29 #[v, .int .i64 i] w fun e w' => e = .returned (.int .i64 (behindI xs i)) ∧ Below w.heap.size w w' := by
  obtain ⟨A, c, rfl, hc, h⟩ := h
  obtain ⟨k, hk⟩ := (rbehind_ev xs hm i).rounds
  exact (naskhref13_Behind.calls k A c xs i _ w h hc hk).mono fun e w' h => ⟨h.1, h.2.below⟩
theorem rjoined_c : Calls Try.prog 31 #[v, .int .i64 i] w fun e w' => e = .returned (.bool (joinedI xs i)) ∧ Below w.heap.size w w' := by
  obtain ⟨A, c, rfl, hc, h⟩ := h
  obtain ⟨k, hk⟩ := (rjoined_ev xs hm i).rounds
  exact (naskhref13_Joined.calls k A c xs i _ w h hc hk).mono fun e w' h => ⟨h.1, h.2.below⟩
omit i in
theorem rforms_c : Calls Try.prog 25 #[v] w fun e w' => ∃ u, e = .returned u ∧ SL w' u (formsOf xs) ∧ Below w.heap.size w w' := by
  obtain ⟨A, c, rfl, hc, h⟩ := h
  obtain ⟨k, hk⟩ := (rforms_ev xs hm).rounds
  exact (naskhref13_Forms.calls k A c xs _ w h hc hk).mono fun e w' ⟨u, he, hr, hb⟩ => ⟨u, he, SLk.of_R hr, hb⟩
end
set_option maxHeartbeats 1000000 in
theorem rover_c {v : Value} {xs : List Int} {w : World} (h : SL w v xs) (hm : xs.length ≤ 1000000) (i : Int) : Calls Try.prog 33 #[v, .int .i64 i] w fun e w' => e = .returned (.bool (overI xs i)) ∧ Below w.heap.size w w' := by
  have H := Aside0.mk h
  by_cases h1 : 0 ≤ i ∧ i < xs.length
  · obtain ⟨h0, h1⟩ := h1
    obtain ⟨ad, c, rfl, hx⟩ := SLk.at_int h i h0 h1
    clear h
    by_cases h2 : rd xs i = 1
    · have h2' : (rd xs i == 1) = true := by simpa using h2
      have HO : Aside0 (overI xs i = joinedI xs (aheadI xs i)) := ⟨by unfold overI; rw [decide_eq_true ⟨h0, h1⟩, decide_eq_true h2]; simp⟩
      clear h2
      go_enter Try.func33, Try.ntmps33
      go_wp2_with fail
      refine (rahead_c H.out hm i).mono ?_
      rintro e w1 ⟨rfl, hb⟩
      have HB := Aside0.mk hb
      clear hb
      go_wp2_with fail
      refine (rjoined_c (SLk.below H.out HB.out) hm _).mono ?_
      rintro e w2 ⟨rfl, hb⟩
      rw [← HO.out]
      have HB2 := Aside0.mk (below_step HB.out hb)
      clear hb
      go_wp2
      go_ret
      exact ⟨rfl, HB2.out⟩
    · have h2' : (rd xs i == 1) = false := by simpa using h2
      have HO : Aside0 (overI xs i = false) := ⟨by unfold overI; rw [decide_eq_false h2]; simp⟩
      clear h2
      go_enter Try.func33, Try.ntmps33
      go_wp2
      go_ret
      exact ⟨by rw [HO.out]; rfl, Below.refl _ _⟩
  · have HO : Aside0 (overI xs i = false) := ⟨by unfold overI; rw [decide_eq_false h1]; simp⟩
    obtain ⟨A, c, rfl, hc, _⟩ := h
    by_cases h0 : 0 ≤ i
    · have h2 : decide (i < (xs.length : Int)) = false := decide_eq_false (by omega)
      clear h1
      go_enter Try.func33, Try.ntmps33
      go_wp2
      go_ret
      exact ⟨by rw [HO.out]; rfl, Below.refl _ _⟩
    · have h2 : decide (0 ≤ i) = false := decide_eq_false h0
      clear h1
      go_enter Try.func33, Try.ntmps33
      go_wp2
      go_ret
      exact ⟨by rw [HO.out]; rfl, Below.refl _ _⟩
end Go.Proofs.Ytfkgjoflekemaaa.CJoin3
