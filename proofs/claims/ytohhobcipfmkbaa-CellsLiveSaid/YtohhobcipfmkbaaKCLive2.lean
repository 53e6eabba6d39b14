/- Texts of this claim, cut to what it needs. -/
import Derived.Test.YtohhobcipfmkbaaKCRefCel3
import Derived.Deep.Slices
import Derived.Deep.Fields
import Derived.ChangeSame
import Derived.ChangeSlices
import Derived.Test.YtohhobcipfmkbaaKCCells1
set_option linter.unusedSimpArgs false
set_option linter.unusedVariables false
section
namespace Go.Proofs.Ytohhobcipfmkbaa.Cel
open Go.RowKit Go.Proofs.YtohhobcipfmkbaaW.PrintWords Go.Proofs.YtohhobcipfmkbaaW.PrintMore Go.Proofs.YtohhobcipfmkbaaW.PrintLast Go.Proofs.Ytohhobcipfmkbaa.U Go.Proofs.Ytohhobcipfmkbaa.PClusterFinest Go.Proofs.Ytohhobcipfmkbaa.UGroups Go.Proofs.Ytohhobcipfmkbaa.UFinEv
def Both (F : Nat → Prop) (w : World) (b c : Nat) (L : List (List Int)) (J : List S33) (L2 : List (List Int)) (J2 : List S33) : Prop :=
 ∃ D E : Nat → Prop, (∀ k, D k → ¬ F k ∧ k < w.heap.size) ∧ (∀ k, E k → ¬ F k ∧ k < w.heap.size) ∧ (∀ k, D k → ¬ E k) ∧ CellsAt 51 w D b L J ∧ CellsAt 68 w E c L2 J2
variable {w W W2 : World} {F G : Nat → Prop} {b c : Nat} {L L2 : List (List Int)} {J J2 : List S33}
theorem Both.kept {S : Nat → Prop} (h : Both F w b c L J L2 J2) (hk : Kept w W S) (hS : ∀ k, S k → F k ∨ w.heap.size ≤ k) : Both F W b c L J L2 J2 := by
 obtain ⟨D, E, h1, h2, h3, h4, h5⟩ := h
 have key : ∀ (X : Nat → Prop), (∀ k, X k → ¬ F k ∧ k < w.heap.size) → ∀ k, X k → ¬ S k := fun X hX k hk' hs => (hS k hs).elim (hX k hk').1 (fun hge => by have := (hX k hk').2; omega)
 exact ⟨D, E, fun k hk' => ⟨(h1 k hk').1, Nat.lt_of_lt_of_le (h1 k hk').2 hk.1⟩, fun k hk' => ⟨(h2 k hk').1, Nat.lt_of_lt_of_le (h2 k hk').2 hk.1⟩, h3, h4.kept hk (key D h1), h5.kept hk (key E h2)⟩
theorem Both.below (h : Both F w b c L J L2 J2) (hb : Below w.heap.size w W) : Both F W b c L J L2 J2 := h.kept (S := fun _ => False) (Kept.of_below hb _) (fun _ h => h.elim)
theorem Both.mono (h : Both F w b c L J L2 J2) (hG : ∀ k, G k → F k) : Both G w b c L J L2 J2 := by
 obtain ⟨D, E, h1, h2, h3, h4, h5⟩ := h
 exact ⟨D, E, fun k hk => ⟨fun hg => (h1 k hk).1 (hG k hg), (h1 k hk).2⟩, fun k hk => ⟨fun hg => (h2 k hk).1 (hG k hg), (h2 k hk).2⟩, h3, h4, h5⟩
theorem Both.grow (h : Both F w b c L J L2 J2) (hb : Below w.heap.size w W) : Both (fun k => F k ∨ (w.heap.size ≤ k ∧ k < W.heap.size)) W b c L J L2 J2 := by
 obtain ⟨D, E, h1, h2, h3, h4, h5⟩ := h
 exact ⟨D, E, fun k hk => ⟨fun hg => hg.elim (h1 k hk).1 (fun hh => by have := (h1 k hk).2; omega), Nat.lt_of_lt_of_le (h1 k hk).2 hb.size⟩, fun k hk => ⟨fun hg => hg.elim (h2 k hk).1 (fun hh => by have := (h2 k hk).2; omega), Nat.lt_of_lt_of_le (h2 k hk).2 hb.size⟩, h3, h4.below hb, h5.below hb⟩
theorem Both.one (h : Both F w b c L J L2 J2) : ∃ D, CellsAt 51 w D b L J ∧ (∀ k, D k → ¬ F k) := by
 obtain ⟨D, E, h1, h2, h3, h4, h5⟩ := h
 exact ⟨D, h4, fun k hk => (h1 k hk).1⟩
theorem Both.two (h : Both F w b c L J L2 J2) : ∃ E, CellsAt 68 w E c L2 J2 ∧ (∀ k, E k → ¬ F k) := by
 obtain ⟨D, E, h1, h2, h3, h4, h5⟩ := h
 exact ⟨E, h5, fun k hk => (h2 k hk).1⟩
theorem Both.left {D E : Nat → Prop} {L' : List (List Int)} {J' : List S33} (hF : ∀ k, F k → k < w.heap.size) (h1 : ∀ k, D k → ¬ F k ∧ k < w.heap.size) (h2 : ∀ k, E k → ¬ F k ∧ k < w.heap.size) (h3 : ∀ k, D k → ¬ E k) (h5 : CellsAt 68 w E c L2 J2)
 (k1 : CellsAt 51 W (fun q => D q ∨ w.heap.size ≤ q) b L' J') (e1 : Eff w W D) : Both F W b c L' J' L2 J2 := by
 refine ⟨fun q => (D q ∨ w.heap.size ≤ q) ∧ q < W.heap.size, E, fun k hk => ⟨fun hf => ?_, hk.2⟩, fun k hk => ⟨(h2 k hk).1, Nat.lt_of_lt_of_le (h2 k hk).2 e1.size⟩, fun k hk he => ?_, k1.bound, h5.kept e1.kept (fun k hk hd => h3 k hd hk)⟩
 ·rcases hk.1 with hd | hge
  ·exact (h1 k hd).1 hf
  ·have := hF k hf; omega
 ·rcases hk.1 with hd | hge
  ·exact h3 k hd he
  ·have := (h2 k he).2; omega
theorem Both.right {D E : Nat → Prop} {L' : List (List Int)} {J' : List S33} (hF : ∀ k, F k → k < w.heap.size) (h1 : ∀ k, D k → ¬ F k ∧ k < w.heap.size) (h2 : ∀ k, E k → ¬ F k ∧ k < w.heap.size) (h3 : ∀ k, D k → ¬ E k) (h4 : CellsAt 51 w D b L J)
 (k2 : CellsAt 68 W (fun q => E q ∨ w.heap.size ≤ q) c L' J') (e2 : Eff w W E) : Both F W b c L J L' J' := by
 refine ⟨D, fun q => (E q ∨ w.heap.size ≤ q) ∧ q < W.heap.size, fun k hk => ⟨(h1 k hk).1, Nat.lt_of_lt_of_le (h1 k hk).2 e2.size⟩, fun k hk => ⟨fun hf => ?_, hk.2⟩, fun k hk he => ?_, h4.kept e2.kept (fun k hk hd => h3 k hk hd), k2.bound⟩
 ·rcases hk.1 with hd | hge
  ·exact (h2 k hd).1 hf
  ·have := hF k hf; omega
 ·rcases he.1 with hd | hge
  ·exact h3 k hk hd
  ·have := (h1 k hk).2; omega
def Few (n B : Nat) (L : List (List Int)) (J : List S33) : Prop := L.length = n ∧ L.flatten.length ≤ 4 * B ∧ J.length ≤ B
theorem flat_set : ∀ (L : List (List Int)) (k : Nat) (hk : k < L.length) (y : List Int), (L.set k y).flatten.length + (L[k]'hk).length = L.flatten.length + y.length
 | [], k, hk, y => absurd hk (Nat.not_lt_zero k)
 | x :: L, 0, hk, y => by
  rw [List.set_cons_zero, List.flatten_cons, List.flatten_cons, List.length_append, List.length_append, List.getElem_cons_zero]
  omega
 | x :: L, k + 1, hk, y => by
  have h := flat_set L k (by simpa using hk) y
  rw [List.set_cons_succ, List.flatten_cons, List.flatten_cons, List.length_append, List.length_append, List.getElem_cons_succ]
  omega
theorem flat_row : ∀ (L : List (List Int)) (k : Nat) (hk : k < L.length), (L[k]'hk).length ≤ L.flatten.length
 | [], k, hk => absurd hk (Nat.not_lt_zero k)
 | x :: L, 0, hk => by rw [List.flatten_cons, List.length_append, List.getElem_cons_zero]; omega
 | x :: L, k + 1, hk => by
  have h := flat_row L k (by simpa using hk)
  rw [List.flatten_cons, List.length_append, List.getElem_cons_succ]; omega
theorem Few.row {n B k : Nat} (h : Few n B L J) (hk : k < L.length) : (L[k]'hk).length ≤ 4 * B := Nat.le_trans (flat_row L k hk) h.2.1
theorem Few.set {n B k : Nat} (h : Few n B L J) (hk : k < L.length) {x : List Int} (hx : x.length ≤ (L[k]'hk).length + 4) : Few n (B + 1) (L.set k x) J := by
 refine ⟨by rw [List.length_set]; exact h.1, ?_, by have := h.2.2; omega⟩
 have := flat_set L k hk x
 have := h.2.1
 omega
theorem Few.mono {n B : Nat} (h : Few n B L J) : Few n (B + 1) L J := ⟨h.1, by have := h.2.1; omega, by have := h.2.2; omega⟩
theorem Few.join {n B : Nat} (h : Few n B L J) (s : S33) : Few n (B + 1) L (J ++ [s]) := ⟨h.1, by have := h.2.1; omega, by have := h.2.2; simp; omega⟩
theorem flat_nils : ∀ n, (List.replicate n ([] : List Int)).flatten = []
 | 0 => rfl
 | n + 1 => by rw [List.replicate_succ, List.flatten_cons, flat_nils n]; rfl
theorem Few.zero (n : Nat) : Few n 0 (List.replicate n []) [] := ⟨List.length_replicate, by rw [flat_nils]; exact Nat.le_refl _, Nat.le_refl _⟩
theorem linkStep_2 (L : List (List Int)) (q : List S45 × Nat) (g : S33) : (linkStep L q g).2 = q.2 + (rowOf L g.f0.toNat g.f1.toNat).flatten.length := rfl
theorem links_end (N : Nat) (J : List S33) (L : List (List Int)) (hL : L.length = N) : ∀ t, t ≤ N → (linksOf L (grpTo N J t).1).2 = (L.take (grpTo N J t).2).flatten.length
 | 0, _ => by simp [grpTo, linksOf]
 | t + 1, ht => by
  have ih := links_end N J L hL t (by omega)
  have hlo := grp_lo N J t (by omega)
  rw [show grpTo N J (t + 1) = UGroups.stepG N J (t + 1) (grpTo N J t) from rfl]
  unfold UGroups.stepG
  by_cases hc : t + 1 = N ∨ acrossB N J (t + 1) = false
  ·rw [if_pos hc]
   dsimp only
   unfold linksOf at ih ⊢
   rw [List.foldl_append, List.foldl_cons, List.foldl_nil]
   rw [linkStep_2, ih]
   dsimp only
   unfold rowOf
   rw [Int.toNat_natCast, Int.toNat_natCast]
   have e : L.take (t + 1) = L.take (grpTo N J t).2 ++ (L.drop (grpTo N J t).2).take (t + 1 - (grpTo N J t).2) := by
    rw [← List.take_append_drop (grpTo N J t).2 L, List.take_append, List.take_take]
    simp only [List.length_take, List.take_append_drop]
    rw [Nat.min_eq_left (a := (grpTo N J t).2) (b := L.length) (by omega), Nat.min_eq_right (by omega)]
   rw [e, List.flatten_append, List.length_append]
  ·rw [if_neg hc]
   exact ih
theorem groups_end (J : List S33) (L : List (List Int)) : (linksOf L (groups L.length J)).2 = L.flatten.length := by
 unfold groups
 rw [links_end L.length J L rfl L.length (Nat.le_refl _)]
 cases hN : L.length with
 | zero => rw [List.eq_nil_of_length_eq_zero hN]; simp
 | succ t =>
  have : (grpTo (t + 1) J (t + 1)).2 = t + 1 := by
   rw [show grpTo (t + 1) J (t + 1) = UGroups.stepG (t + 1) J (t + 1) (grpTo (t + 1) J t) from rfl]
   unfold UGroups.stepG
   rw [if_pos (.inl rfl)]
  rw [this, ← hN, List.take_length]
def Then (F : Nat → Prop) (f : FuncId) (b c n B : Nat) (r : Int) (args : World → Array Value → Prop) (W : World) : Prop :=
 ∀ vs W1, Below W.heap.size W W1 → args W1 vs → Calls Try.prog f vs W1 fun e w2 => e = .returned (.int .i64 r) ∧ (∃ L' J', Both F w2 b c L' J' L' J' ∧ Few n (B + 1) L' J') ∧ Eff W1 w2 (fun k => ¬ F k)
theorem set_pair (hF : ∀ k, F k → k < w.heap.size) {n B : Nat} (h : Both F w b c L J L J) (hfew : Few n B L J) (hn : n ≤ 1000000) (hB : B ≤ 1000) (at_ : Int) {v : Value} {x : List Int} (hx : SL w v x) (hx4 : x.length ≤ 4) : Calls Try.prog 24 #[ptr b, .int .i64 at_, v] w fun e W => ∃ r, e = .returned (.int .i64 r) ∧ Eff w W (fun k => ¬ F k) ∧ Then F 43 b c n B r (fun W1 vs => ∃ v2, SL W1 v2 x ∧ vs = #[ptr c, .int .i64 at_, v2]) W := by
 obtain ⟨D, E, h1, h2, h3, h4, h5⟩ := h
 by_cases hat : 0 ≤ at_ ∧ at_ < (L.length : Int)
 ·obtain ⟨k, rfl⟩ : ∃ k : Nat, at_ = (k : Int) := ⟨at_.toNat, by omega⟩
  have hk : k < L.length := by omega
  refine (set_c h4 k hk hx (by omega)).mono ?_
  rintro e W ⟨rfl, k1, e1⟩
  refine ⟨0, rfl, e1.mono (fun k hk => (h1 k hk).1), ?_⟩
  intro vs W1 hb ha
  obtain ⟨v2, hv2, rfl⟩ := ha
  have hb1 := (Both.left hF h1 h2 h3 h5 k1 e1).below hb
  obtain ⟨D1, E1, h1', h2', h3', h4', h5'⟩ := hb1
  have hF1 : ∀ k, F k → k < W1.heap.size := fun k hk => Nat.lt_of_lt_of_le (hF k hk) (Nat.le_trans e1.size hb.size)
  refine (refSet_c h5' k hk hv2 (by omega)).mono ?_
  rintro e w2 ⟨rfl, k2, e2⟩
  exact ⟨rfl, ⟨_, _, Both.right hF1 h1' h2' h3' h4' k2 e2, hfew.set hk (by omega)⟩, e2.mono (fun k hk => (h2' k hk).1)⟩
 ·refine (set_bad h4 at_ hat v).mono ?_
  rintro e W ⟨rfl, hb0⟩
  refine ⟨1, rfl, Eff.of_below hb0 _, ?_⟩
  intro vs W1 hb ha
  obtain ⟨v2, hv2, rfl⟩ := ha
  have hb1 := (Both.below ⟨D, E, h1, h2, h3, h4, h5⟩ hb0).below hb
  obtain ⟨D1, E1, h1', h2', h3', h4', h5'⟩ := hb1
  refine (refSet_bad h5' at_ hat v2).mono ?_
  rintro e w2 ⟨rfl, hb2⟩
  exact ⟨rfl, ⟨_, J, (Both.below ⟨D1, E1, h1', h2', h3', h4', h5'⟩ hb2), hfew.mono⟩, Eff.of_below hb2 _⟩
theorem ahead_pair (hF : ∀ k, F k → k < w.heap.size) {n B : Nat} (h : Both F w b c L J L J) (hfew : Few n B L J) (hn : n ≤ 1000000) (hB : B ≤ 1000) {v : Value} {x : List Int} (hx : SL w v x) (hx4 : x.length ≤ 4) : Calls Try.prog 25 #[ptr b, v] w fun e W => ∃ r, e = .returned (.int .i64 r) ∧ Eff w W (fun k => ¬ F k) ∧ Then F 44 b c n B r (fun W1 vs => ∃ v2, SL W1 v2 x ∧ vs = #[ptr c, v2]) W := by
 obtain ⟨D, E, h1, h2, h3, h4, h5⟩ := h
 by_cases hl : 0 < L.length
 ·have hy := hfew.row (k := 0) (by omega)
  refine (ahead_c h4 hl (by have := hfew.1; omega) hx (by omega)).mono ?_
  rintro e W ⟨rfl, k1, e1⟩
  refine ⟨0, rfl, e1.mono (fun k hk => (h1 k hk).1), ?_⟩
  intro vs W1 hb ha
  obtain ⟨v2, hv2, rfl⟩ := ha
  have hb1 := (Both.left hF h1 h2 h3 h5 k1 e1).below hb
  obtain ⟨D1, E1, h1', h2', h3', h4', h5'⟩ := hb1
  have hF1 : ∀ k, F k → k < W1.heap.size := fun k hk => Nat.lt_of_lt_of_le (hF k hk) (Nat.le_trans e1.size hb.size)
  refine (refAhead_c h5' hl (by have := hfew.1; omega) hv2 (by omega)).mono ?_
  rintro e w2 ⟨rfl, k2, e2⟩
  exact ⟨rfl, ⟨_, _, Both.right hF1 h1' h2' h3' h4' k2 e2, hfew.set (by omega) (by rw [List.length_append]; omega)⟩, e2.mono (fun k hk => (h2' k hk).1)⟩
 ·obtain rfl : L = [] := List.eq_nil_of_length_eq_zero (by omega)
  refine (ahead_bad h4 v).mono ?_
  rintro e W ⟨rfl, hb0⟩
  refine ⟨1, rfl, Eff.of_below hb0 _, ?_⟩
  intro vs W1 hb ha
  obtain ⟨v2, hv2, rfl⟩ := ha
  have hb1 := (Both.below ⟨D, E, h1, h2, h3, h4, h5⟩ hb0).below hb
  obtain ⟨D1, E1, h1', h2', h3', h4', h5'⟩ := hb1
  refine (refAhead_bad h5' v2).mono ?_
  rintro e w2 ⟨rfl, hb2⟩
  exact ⟨rfl, ⟨_, J, (Both.below ⟨D1, E1, h1', h2', h3', h4', h5'⟩ hb2), hfew.mono⟩, Eff.of_below hb2 _⟩
theorem behind_pair (hF : ∀ k, F k → k < w.heap.size) {n B : Nat} (h : Both F w b c L J L J) (hfew : Few n B L J) (hn : n ≤ 1000000) (hB : B ≤ 1000) {v : Value} {x : List Int} (hx : SL w v x) (hx4 : x.length ≤ 4) : Calls Try.prog 26 #[ptr b, v] w fun e W => ∃ r, e = .returned (.int .i64 r) ∧ Eff w W (fun k => ¬ F k) ∧ Then F 45 b c n B r (fun W1 vs => ∃ v2, SL W1 v2 x ∧ vs = #[ptr c, v2]) W := by
 obtain ⟨D, E, h1, h2, h3, h4, h5⟩ := h
 by_cases hl : 0 < L.length
 ·have hy := hfew.row (k := (L.length - 1)) (by omega)
  refine (behind_c h4 hl (by have := hfew.1; omega) hx (by omega)).mono ?_
  rintro e W ⟨rfl, k1, e1⟩
  refine ⟨0, rfl, e1.mono (fun k hk => (h1 k hk).1), ?_⟩
  intro vs W1 hb ha
  obtain ⟨v2, hv2, rfl⟩ := ha
  have hb1 := (Both.left hF h1 h2 h3 h5 k1 e1).below hb
  obtain ⟨D1, E1, h1', h2', h3', h4', h5'⟩ := hb1
  have hF1 : ∀ k, F k → k < W1.heap.size := fun k hk => Nat.lt_of_lt_of_le (hF k hk) (Nat.le_trans e1.size hb.size)
  refine (refBehind_c h5' hl (by have := hfew.1; omega) hv2 (by omega)).mono ?_
  rintro e w2 ⟨rfl, k2, e2⟩
  exact ⟨rfl, ⟨_, _, Both.right hF1 h1' h2' h3' h4' k2 e2, hfew.set (by omega) (by rw [List.length_append]; omega)⟩, e2.mono (fun k hk => (h2' k hk).1)⟩
 ·obtain rfl : L = [] := List.eq_nil_of_length_eq_zero (by omega)
  refine (behind_bad h4 v).mono ?_
  rintro e W ⟨rfl, hb0⟩
  refine ⟨1, rfl, Eff.of_below hb0 _, ?_⟩
  intro vs W1 hb ha
  obtain ⟨v2, hv2, rfl⟩ := ha
  have hb1 := (Both.below ⟨D, E, h1, h2, h3, h4, h5⟩ hb0).below hb
  obtain ⟨D1, E1, h1', h2', h3', h4', h5'⟩ := hb1
  refine (refBehind_bad h5' v2).mono ?_
  rintro e w2 ⟨rfl, hb2⟩
  exact ⟨rfl, ⟨_, J, (Both.below ⟨D1, E1, h1', h2', h3', h4', h5'⟩ hb2), hfew.mono⟩, Eff.of_below hb2 _⟩
theorem join_pair (hF : ∀ k, F k → k < w.heap.size) {n B : Nat} (h : Both F w b c L J L J) (hfew : Few n B L J) (hn : n ≤ 1000000) (hB : B ≤ 1000) (lo hi : Int) : Calls Try.prog 27 #[ptr b, .agg #[.int .i64 lo, .int .i64 hi]] w fun e W => ∃ r, e = .returned (.int .i64 r) ∧ Eff w W (fun k => ¬ F k) ∧ Then F 46 b c n B r (fun W1 vs => vs = #[ptr c, .agg #[.int .i64 lo, .int .i64 hi]]) W := by
 obtain ⟨D, E, h1, h2, h3, h4, h5⟩ := h
 by_cases hok : 0 ≤ lo ∧ lo < hi ∧ hi ≤ (L.length : Int)
 ·skip
  refine (join_c h4 (by have := hfew.2.2; omega) lo hi hok.1 hok.2.1 hok.2.2).mono ?_
  rintro e W ⟨rfl, k1, e1⟩
  refine ⟨0, rfl, e1.mono (fun k hk => (h1 k hk).1), ?_⟩
  intro vs W1 hb ha
  obtain rfl := ha
  have hb1 := (Both.left hF h1 h2 h3 h5 k1 e1).below hb
  obtain ⟨D1, E1, h1', h2', h3', h4', h5'⟩ := hb1
  have hF1 : ∀ k, F k → k < W1.heap.size := fun k hk => Nat.lt_of_lt_of_le (hF k hk) (Nat.le_trans e1.size hb.size)
  refine (refJoin_c h5' (by have := hfew.2.2; omega) lo hi hok.1 hok.2.1 hok.2.2).mono ?_
  rintro e w2 ⟨rfl, k2, e2⟩
  exact ⟨rfl, ⟨_, _, Both.right hF1 h1' h2' h3' h4' k2 e2, hfew.join _⟩, e2.mono (fun k hk => (h2' k hk).1)⟩
 ·refine (join_bad h4 lo hi hok).mono ?_
  rintro e W ⟨rfl, hb0⟩
  refine ⟨1, rfl, Eff.of_below hb0 _, ?_⟩
  intro vs W1 hb ha
  obtain rfl := ha
  have hb1 := (Both.below ⟨D, E, h1, h2, h3, h4, h5⟩ hb0).below hb
  obtain ⟨D1, E1, h1', h2', h3', h4', h5'⟩ := hb1
  refine (refJoin_bad h5' lo hi hok).mono ?_
  rintro e w2 ⟨rfl, hb2⟩
  exact ⟨rfl, ⟨_, J, (Both.below ⟨D1, E1, h1', h2', h3', h4', h5'⟩ hb2), hfew.mono⟩, Eff.of_below hb2 _⟩
end Go.Proofs.Ytohhobcipfmkbaa.Cel
end
section
namespace Go.Proofs.Ytohhobcipfmkbaa.CRow
open Go.RowKit Go.ChangeShapes Go.WideShapes Go.Deep Go.Proofs.YtohhobcipfmkbaaW.PrintWords Go.Proofs.Ytohhobcipfmkbaa.PClusterFinest Go.Proofs.Ytohhobcipfmkbaa.U
structure SDo where
 op : Int
 at_ : Int
 codes : List Int
 lo : Int
 hi : Int
def DoC (w : World) (A : Option Addr) (l : List SDo) : Prop := ∀ (i : Nat) (h : i < l.length), ∃ ad A' c', A = some ad ∧ w.cell? (ad.add (i * 5)) = some (.int .i64 l[i].op) ∧ w.cell? ⟨(ad.add (i * 5)).block, (ad.add (i * 5)).off + 1, none⟩ = some (.int .i64 l[i].at_) ∧ w.cell? ⟨(ad.add (i * 5)).block, (ad.add (i * 5)).off + 2, none⟩ = some (.slice A' l[i].codes.length c') ∧ w.cell? ⟨(ad.add (i * 5)).block, (ad.add (i * 5)).off + 3, none⟩ = some (.int .i64 l[i].lo) ∧ w.cell? ⟨(ad.add (i * 5)).block, (ad.add (i * 5)).off + 4, none⟩ = some (.int .i64 l[i].hi) ∧ SL w (.slice A' l[i].codes.length c') l[i].codes
section
variable {H : Type} {enc : TypeId × Value → H} {w : World} {base : Nat} {spare : Nat → Bool} {held : Bool}
theorem cellsOf35 : Try.prog.cellsOf 35 = 5 := by kernel_rfl
theorem cellsOf31 : Try.prog.cellsOf 31 = 1 := by kernel_rfl
theorem readInts {n : Nat} {cs : List Value} {x : DataW H × List MemPlace} (h : DataW.trod enc Try.prog w base spare held n 31 cs = some x) : ∃ (xs : List Int) (A : Option Addr) (c : Nat), cs = [.slice A xs.length c] ∧ SL w (.slice A xs.length c) xs := by
 rcases open_ints Try.underlying31 Try.underlying3 cellsOf3 h with ⟨rfl, _⟩ | ⟨a, len, cap, zs, rfl, _, hl, hm, hz, _, hcell, _⟩
 ·exact ⟨[], none, 0, rfl, SLk.nil w⟩
 ·have hlz : len ≤ zs.length := by rw [hz]; split <;> omega
  have e : (zs.take len).length = len := by rw [List.length_take]; omega
  have hmax : maxLen = 9223372036854775807 := rfl
  refine ⟨zs.take len, some a, cap, by rw [e], ?_⟩
  refine ⟨_, _, rfl, by rw [e]; exact hl, rfl, by rw [e]; omega, fun hn => ⟨a, rfl, fun j p hj => ?_⟩⟩
  obtain ⟨hjl, hp⟩ := List.getElem?_eq_some_iff.1 hj
  rw [e] at hjl
  refine ⟨[.int .i64 p], rfl, rfl, fun k u hu => ?_⟩
  cases k with
  | succ k => simp at hu
  | zero =>
   obtain rfl := Option.some.inj hu
   have := hcell j (by omega)
   rw [show (Kd.int .i64).sz = 1 from rfl, Nat.mul_one, Nat.add_zero, this]
   rw [List.getElem_take] at hp
   rw [← hp, List.getD_eq_getElem?_getD, List.getElem?_eq_getElem (by omega)]
   rfl
set_option maxRecDepth 100000 in
theorem read35 {n : Nat} {cs : List Value} {x : DataW H × List MemPlace} (h : DataW.trod enc Try.prog w base spare held n 35 cs = some x) : ∃ (s : SDo) (A : Option Addr) (c : Nat), cs = [.int .i64 s.op, .int .i64 s.at_, .slice A s.codes.length c, .int .i64 s.lo, .int .i64 s.hi] ∧ SL w (.slice A s.codes.length c) s.codes := by
 obtain ⟨xs, m, _, _, hl, hlen, hf⟩ := DataW.trod_struct Try.underlying35 h
 rw [cellsOf35] at hl
 match xs, hlen with
 | [y0, y1, y2, y3], _ =>
  have h0 : DataW.trod enc Try.prog w base spare held m 3 ((cs.drop 0).take (Try.prog.cellsOf 3)) = some y0 := by simpa using hf 0 _ rfl
  have h1 : DataW.trod enc Try.prog w base spare held m 3 ((cs.drop 1).take (Try.prog.cellsOf 3)) = some y1 := by simpa using hf 1 _ rfl
  have h2 : DataW.trod enc Try.prog w base spare held m 31 ((cs.drop 2).take (Try.prog.cellsOf 31)) = some y2 := by simpa using hf 2 _ rfl
  have h3 : DataW.trod enc Try.prog w base spare held m 33 ((cs.drop 3).take (Try.prog.cellsOf 33)) = some y3 := by simpa using hf 3 _ rfl
  rw [cellsOf3] at h0 h1
  rw [cellsOf31] at h2
  rw [cellsOf33] at h3
  obtain ⟨a, ha, _⟩ := DataW.trod_int Try.underlying3 h0
  obtain ⟨b, hb, _⟩ := DataW.trod_int Try.underlying3 h1
  obtain ⟨zs, A, c, hz, hsl⟩ := readInts h2
  obtain ⟨s, hs⟩ := read33 h3
  match cs, hl with
  | [c0, c1, c2, c3, c4], _ =>
   simp at ha hb hz hs
   exact ⟨⟨a, b, zs, s.f0, s.f1⟩, A, c, by rw [ha, hb, hz, hs.1, hs.2], hsl⟩
theorem open22 {fuel : Nat} {A : Option Addr} {len cap : Nat} {x : DataW H × List MemPlace} (h : DataW.trod enc Try.prog w base (fun _ => true) held fuel 22 (Value.slice A len cap).cells.toList = some x) :
 ∃ l : List SDo, len = l.length ∧ DoC w A l ∧ l.length ≤ cap ∧ cap ≤ maxLen := by
 rcases open_slice Try.underlying22 h with ⟨hcs, _⟩ | ⟨a, len', cap', m, n, D, Pl, hcs, hb, hl, hm, hmm, hx, hi⟩
 ·simp [Value.cells] at hcs
  obtain ⟨rfl, rfl, rfl⟩ := hcs
  exact ⟨[], rfl, fun i h => absurd h (Nat.not_lt_zero i), Nat.le_refl _, Nat.zero_le _⟩
 ·simp [Value.cells] at hcs
  obtain ⟨rfl, rfl, rfl⟩ := hcs
  rw [if_pos rfl] at hmm
  subst hmm
  rw [cellsOf35] at hi
  have key : ∀ i, i < m → ∃ (s : SDo) (A' : Option Addr) (c' : Nat), (∀ j u, ([.int .i64 s.op, .int .i64 s.at_, .slice A' s.codes.length c', .int .i64 s.lo, .int .i64 s.hi] : List Value)[j]? = some u → w.cell? (a.add (i * 5 + j)) = some u) ∧ SL w (.slice A' s.codes.length c') s.codes := fun i him => by
   obtain ⟨cs', hc, ht⟩ := hi i him
   obtain ⟨s, A', c', rfl, hsl⟩ := read35 ht
   obtain ⟨_, _, hat⟩ := World.cells?_some hc
   refine ⟨s, A', c', fun j u hu => ?_, hsl⟩
   have hj : j < 5 := (List.getElem?_eq_some_iff.1 hu).1
   have := hat j hj
   rw [hu] at this
   rw [← this]
   rw [Go.Deep.add_add]
  let f : Nat → SDo := fun i => if h : i < m then (key i h).choose else ⟨0, 0, [], 0, 0⟩
  have hf : ∀ i (h : i < m), f i = (key i h).choose := fun i h => dif_pos h
  refine ⟨(List.range len).map f, by simp, fun i hil => ?_, by simpa using hl, hm⟩
  have hil' : i < len := by simpa using hil
  obtain ⟨A', c', hcells, hsl⟩ := (key i (by omega)).choose_spec
  rw [← hf i (by omega)] at hcells hsl
  have e : ((List.range len).map f)[i] = f i := by simp
  rw [e]
  refine ⟨a, A', c', rfl, ?_, ?_, ?_, ?_, ?_, hsl⟩
  ·have := hcells 0 _ rfl; rwa [Nat.add_zero] at this
  ·rw [← add_field _ _ 1 (by omega)]; exact hcells 1 _ rfl
  ·rw [← add_field _ _ 2 (by omega)]; exact hcells 2 _ rfl
  ·rw [← add_field _ _ 3 (by omega)]; exact hcells 3 _ rfl
  ·rw [← add_field _ _ 4 (by omega)]; exact hcells 4 _ rfl
end
end Go.Proofs.Ytohhobcipfmkbaa.CRow
end
section
namespace Go.Proofs.Ytohhobcipfmkbaa.Cel
open Go.RowKit Go.Proofs.YtohhobcipfmkbaaW.PrintWords Go.Proofs.YtohhobcipfmkbaaW.PrintMore Go.Proofs.YtohhobcipfmkbaaW.PrintLast Go.Proofs.Ytohhobcipfmkbaa.U Go.Proofs.Ytohhobcipfmkbaa.PClusterFinest Go.Proofs.Ytohhobcipfmkbaa.UGroups Go.Proofs.Ytohhobcipfmkbaa.UFinEv
open Go.Proofs.Ytohhobcipfmkbaa.CRow (SDo)
set_option maxRecDepth 100000 in
set_option maxHeartbeats 16000000 in
theorem do_c {w : World} {F : Nat → Prop} {b c n B : Nat} {L : List (List Int)} {J : List S33} (hF : ∀ q, F q → q < w.heap.size) (h : Both F w b c L J L J) (hfew : Few n B L J) (hn : n ≤ 1000000) (hB : B ≤ 1000) (k : SDo) {Ak : Option Addr} {ck : Nat} (hk : SLD w F (.slice Ak k.codes.length ck) k.codes) (hk4 : k.codes.length ≤ 4) :
 Calls Try.prog 15 #[ptr b, ptr c, .agg #[.int .i64 k.op, .int .i64 k.at_, .slice Ak k.codes.length ck, .int .i64 k.lo, .int .i64 k.hi]] w fun e w' => e = .returned (.bool true) ∧ (∃ L' J', Both F w' b c L' J' L' J' ∧ Few n (B + 1) L' J') ∧ Eff w w' (fun q => ¬ F q) := by
 have HF := Aside0.mk hF
 have HBO := Aside0.mk h
 have HFEW := Aside0.mk hfew
 have HN := Aside0.mk hn
 have HBB := Aside0.mk hB
 have HK := Aside0.mk hk
 have HK4 := Aside0.mk hk4
 clear hF h hfew hn hB hk hk4
 go_enter Try.func15, Try.ntmps15
 go_upto_region 3 with (first | ((with_reducible refine gate_dst (N := 5) rfl ?_); refine box_event ?hg (N := 5) ?hd (cs := #[.int .i64 k.op, .int .i64 k.at_, .slice Ak k.codes.length ck, .int .i64 k.lo, .int .i64 k.hi]) (t := 35) ?hr ?_; (case hd => rfl); (case hg => rfl); (case hr => first | (go_simp; done) | (go_simp; rfl)); intro gb hg w1 hbox hb; have HG0 := Aside0.mk hg; have HX1 := Aside0.mk hbox; have HB1 := Aside0.mk hb; have x2 := (blk_cell hbox 2).trans rfl; clear hg hbox hb) | (go_at_call 42; refine (clone_c (SLk.below HK.out.1 HB1.out) (by have := HK4.out; omega)).mono ?_; rintro e w2 ⟨u, rfl, hr, hb⟩; obtain ⟨Ag, cg, eg⟩ := Kd.R_slice hr; subst eg; have HR2 := Aside0.mk hr; have HB2 : Aside0 (Below w.heap.size w w2) := ⟨below_step HB1.out hb⟩; have HX2 : Aside0 (w2.heap[gb]? = some (.cells #[.int .i64 k.op, .int .i64 k.at_, .slice Ak k.codes.length ck, .int .i64 k.lo, .int .i64 k.hi] 35 (0, 0))) := ⟨(hb.block _ (blk_lt HX1.out)).trans HX1.out⟩; have HSZ := Aside0.mk (Nat.le_trans HB1.out.size (Nat.le_refl _)); clear hr hb x2))
 obtain ⟨F2, hF2⟩ : ∃ F2 : Nat → Prop, F2 = fun q => F q ∨ (w.heap.size ≤ q ∧ q < w2.heap.size) := ⟨_, rfl⟩
 have HBO2 : Aside0 (Both F2 w2 b c L J L J) := ⟨by rw [hF2]; exact HBO.out.grow HB2.out⟩
 have HF2 : Aside0 (∀ q, F2 q → q < w2.heap.size) := ⟨fun q hq => by rw [hF2] at hq; exact hq.elim (fun h => Nat.lt_of_lt_of_le (HF.out q h) HB2.out.size) (fun h => h.2)⟩
 have HGF : Aside0 (F2 gb) := ⟨by rw [hF2]; exact .inr ⟨by rw [HG0.out]; exact Nat.le_refl _, blk_lt HX2.out⟩⟩
 have HSUB : Aside0 (∀ q, F q → F2 q) := ⟨fun q hq => by rw [hF2]; exact .inl hq⟩
 have HSUB2 : Aside0 (∀ q, ¬ F q → ¬ F2 q ∨ w.heap.size ≤ q) := ⟨fun q hq => by rw [hF2]; by_cases hw : w.heap.size ≤ q; exact .inr hw; exact .inl (fun h => h.elim hq (fun h => hw h.1))⟩
 have HSUB3 : Aside0 (∀ q, ¬ F2 q → ¬ F q) := ⟨fun q hq hf => hq (HSUB.out q hf)⟩
 have HSUB4 : Aside0 (∀ q, F2 q → ¬ F q ∨ F q) := ⟨fun q hq => (Classical.em (F q)).symm⟩
 have HK2 : Aside0 (SLD w2 F2 (.slice Ak k.codes.length ck) k.codes) := ⟨⟨SLk.below HK.out.1 HB2.out, fun ad m c e hm => HSUB.out _ (HK.out.2 ad m c e hm)⟩⟩
 have HR22 : Aside0 (Kd.R (Kd.int .i64) 3 w2 0 (fun q => w.heap.size ≤ q ∧ q < w2.heap.size) (.slice Ag k.codes.length cg) k.codes) := ⟨Kd.R_lower (Kd.R_mono (Kd.R_bound HR2.out) (fun q hq => ⟨Nat.le_trans HB1.out.size hq.2.1, hq.2.2.1⟩)) (Nat.zero_le _)⟩
 have HGG : Aside0 (∀ q, (w.heap.size ≤ q ∧ q < w2.heap.size) → F2 q) := ⟨fun q hq => by rw [hF2]; exact .inr hq⟩
 have HBD : Aside0 (Below w2.heap.size w2 w2.drew) := ⟨below_drew (Below.refl _ _)⟩
 have HXD : Aside0 (w2.drew.heap[gb]? = some (.cells #[.int .i64 k.op, .int .i64 k.at_, .slice Ak k.codes.length ck, .int .i64 k.lo, .int .i64 k.hi] 35 (0, 0))) := ⟨(HBD.out.block _ (blk_lt HX2.out)).trans HX2.out⟩
 have HKD : Aside0 (SLD w2.drew F2 (.slice Ak k.codes.length ck) k.codes) := ⟨⟨SLk.below HK2.out.1 HBD.out, HK2.out.2⟩⟩
 have HRD : Aside0 (SL w2.drew (.slice Ag k.codes.length cg) k.codes) := ⟨SLk.below (SLk.of_R HR22.out) HBD.out⟩
 have HBOD := Aside0.mk (HBO2.out.below HBD.out)
 have HFD : Aside0 (∀ q, F2 q → q < w2.drew.heap.size) := ⟨fun q hq => Nat.lt_of_lt_of_le (HF2.out q hq) HBD.out.size⟩
 clear hF2
 have x0 := (blk_cell HX2.out 0).trans rfl
 obtain ⟨op, hop⟩ : ∃ op, op = k.op := ⟨_, rfl⟩
 rw [← hop] at x0
 have HOP := Aside0.mk hop; clear hop
 have hz : op = 0 ∨ op = 1 ∨ op = 2 ∨ op = 3 ∨ op = 4 ∨ op = 5 ∨ (¬ op = 0 ∧ ¬ op = 1 ∧ ¬ op = 2 ∧ ¬ op = 3 ∧ ¬ op = 4 ∧ ¬ op = 5) := by omega
 rcases hz with rfl | rfl | rfl | rfl | rfl | rfl | ⟨n0, n1, n2, n3, n4, n5⟩
 ·go_upto_region 9 with (fail)
  refine start_ (n := 13) (S := (fun W => W.heap[gb]? = some (.cells #[.int .i64 k.op, .int .i64 k.at_, .slice Ak k.codes.length ck, .int .i64 k.lo, .int .i64 k.hi] 35 (0, 0)))) (ds := []) #[false, false, false, false, false, false, false, false, false, false, false, false, false] (by kernel_rfl) (by kernel_rfl) (by rfl) HXD.out (fun hS0 => ?_)
  refine pure_ (i := 0) (N := (some 29)) (v := ?_) (a' := ?_) #[true, false, false, false, false, false, false, false, false, false, false, false, false] rfl rfl (by kernel_rfl) (fun _ _ _ h => h) (Or.inl ⟨by rfl, ?_⟩) ?_ ?_
  rotate_left
  ·intro w'
   go_simp
   with_reducible rfl
  rotate_left
  ·simp only [Act.put, List.setIfInBounds_toArray, List.set_cons_zero, List.set_cons_succ]
   rfl
  refine pure_ (i := 1) (N := (some 30)) (v := ?_) (a' := ?_) #[true, true, false, false, false, false, false, false, false, false, false, false, false] rfl rfl (by kernel_rfl) (fun _ _ _ h => h) (Or.inl ⟨by rfl, ?_⟩) ?_ ?_
  rotate_left
  ·intro w'
   go_simp
   with_reducible rfl
  rotate_left
  ·simp only [Act.put, List.setIfInBounds_toArray, List.set_cons_zero, List.set_cons_succ]
   rfl
  refine take_ (i := 2) (N := (some 31)) (v := ?_) (a' := ?_) #[true, true, true, false, false, false, false, false, false, false, false, false, false] rfl rfl (by kernel_rfl) (fun _ _ _ h => h) (Or.inl ⟨by rfl, ?_⟩) hS0 ?_ ?_
  rotate_left
  ·intro w' s0
   have y1 := (blk_cell s0 1).trans rfl
   go_simp
   with_reducible rfl
  rotate_left
  ·simp only [Act.put, List.setIfInBounds_toArray, List.set_cons_zero, List.set_cons_succ]
   rfl
  refine pure_ (i := 3) (N := (some 32)) (v := ?_) (a' := ?_) #[true, true, true, true, false, false, false, false, false, false, false, false, false] rfl rfl (by kernel_rfl) (fun _ _ _ h => h) (Or.inl ⟨by rfl, ?_⟩) ?_ ?_
  rotate_left
  ·intro w'
   go_simp
   with_reducible rfl
  rotate_left
  ·simp only [Act.put, List.setIfInBounds_toArray, List.set_cons_zero, List.set_cons_succ]
   rfl
  refine pure_ (i := 5) (N := (some 34)) (v := ?_) (a' := ?_) #[true, true, true, true, false, true, false, false, false, false, false, false, false] rfl rfl (by kernel_rfl) (fun _ _ _ h => h) (Or.inl ⟨by rfl, ?_⟩) ?_ ?_
  rotate_left
  ·intro w'
   go_simp
   with_reducible rfl
  rotate_left
  ·simp only [Act.put, List.setIfInBounds_toArray, List.set_cons_zero, List.set_cons_succ]
   rfl
  refine pure_ (i := 6) (N := (some 35)) (v := ?_) (a' := ?_) #[true, true, true, true, false, true, true, false, false, false, false, false, false] rfl rfl (by kernel_rfl) (fun _ _ _ h => h) (Or.inl ⟨by rfl, ?_⟩) ?_ ?_
  rotate_left
  ·intro w'
   go_simp
   with_reducible rfl
  rotate_left
  ·simp only [Act.put, List.setIfInBounds_toArray, List.set_cons_zero, List.set_cons_succ]
   rfl
  refine take_ (i := 7) (N := (some 36)) (v := ?_) (a' := ?_) #[true, true, true, true, false, true, true, true, false, false, false, false, false] rfl rfl (by kernel_rfl) (fun _ _ _ h => h) (Or.inl ⟨by rfl, ?_⟩) hS0 ?_ ?_
  rotate_left
  ·intro w' s0
   have y1 := (blk_cell s0 1).trans rfl
   go_simp
   with_reducible rfl
  rotate_left
  ·simp only [Act.put, List.setIfInBounds_toArray, List.set_cons_zero, List.set_cons_succ]
   rfl
  refine pure_ (i := 8) (N := (some 37)) (v := ?_) (a' := ?_) #[true, true, true, true, false, true, true, true, true, false, false, false, false] rfl rfl (by kernel_rfl) (fun _ _ _ h => h) (Or.inl ⟨by rfl, ?_⟩) ?_ ?_
  rotate_left
  ·intro w'
   go_simp
   with_reducible rfl
  rotate_left
  ·simp only [Act.put, List.setIfInBounds_toArray, List.set_cons_zero, List.set_cons_succ]
   rfl
  refine take_ (i := 9) (N := (some 38)) (v := ?_) (a' := ?_) #[true, true, true, true, false, true, true, true, true, true, false, false, false] rfl rfl (by kernel_rfl) (fun _ _ _ h => h) (Or.inl ⟨by rfl, ?_⟩) hS0 ?_ ?_
  rotate_left
  ·intro w' s0
   have y2 := (blk_cell s0 2).trans rfl
   go_simp
   with_reducible rfl
  rotate_left
  ·simp only [Act.put, List.setIfInBounds_toArray, List.set_cons_zero, List.set_cons_succ]
   rfl
  clear hS0
  refine one_ (i := 4) (N := (some 33)) #[true, true, true, true, true, true, true, true, true, true, false, false, false] rfl rfl (by kernel_rfl) (by decide) (fun K hK => ?_)
  refine goes_ Try.func24 (by kernel_rfl) rfl #[ptr b, .int .i64 k.at_, .slice Ag k.codes.length cg] (by rfl) rfl rfl (by go_simp; done) ?_
  refine (set_pair HFD.out HBOD.out HFEW.out HN.out HBB.out k.at_ HRD.out HK4.out).mono ?_
  rintro e w3 ⟨r, rfl, he3, ht⟩
  refine ⟨_, rfl, ?_⟩
  have HX3 : Aside0 (w3.heap[gb]? = some (.cells #[.int .i64 k.op, .int .i64 k.at_, .slice Ak k.codes.length ck, .int .i64 k.lo, .int .i64 k.hi] 35 (0, 0))) := ⟨blk_kept HXD.out he3.kept (fun hh => hh HGF.out)⟩
  have HE3 := Aside0.mk he3
  have HT := Aside0.mk ht
  clear he3 ht
  change K (Act.put _ (some 33) _) _
  refine hK.out _ _ HX3.out (fun hS0 => ?_)
  clear hK
  refine norm_ (a' := ?_) ?_ ?_
  rotate_left
  ·simp only [Act.put, List.setIfInBounds_toArray, List.set_cons_zero, List.set_cons_succ]
   rfl
  clear hS0
  refine one_ (i := 10) (N := (some 39)) #[true, true, true, true, true, true, true, true, true, true, true, false, false] rfl rfl (by kernel_rfl) (by decide) (fun K hK => ?_)
  refine goes_ Try.func43 (by kernel_rfl) rfl #[ptr c, .int .i64 k.at_, .slice Ak k.codes.length ck] (by rfl) rfl rfl (by go_simp; done) ?_
  refine (HT.out _ w3 (Below.refl _ _) ⟨_, SL.kept HKD.out HE3.out.kept (fun q hq hn => hn hq), rfl⟩).mono ?_
  rintro e w4 ⟨rfl, hres, he4⟩
  refine ⟨_, rfl, ?_⟩
  have HX4 : Aside0 (w4.heap[gb]? = some (.cells #[.int .i64 k.op, .int .i64 k.at_, .slice Ak k.codes.length ck, .int .i64 k.lo, .int .i64 k.hi] 35 (0, 0))) := ⟨blk_kept HX3.out he4.kept (fun hh => hh HGF.out)⟩
  have HE4 := Aside0.mk he4
  have HRES := Aside0.mk hres
  clear he4 hres
  change K (Act.put _ (some 39) _) _
  refine hK.out _ _ HX4.out (fun hS0 => ?_)
  clear hK
  refine norm_ (a' := ?_) ?_ ?_
  rotate_left
  ·simp only [Act.put, List.setIfInBounds_toArray, List.set_cons_zero, List.set_cons_succ]
   rfl
  refine pure_ (i := 11) (N := (some 40)) (v := ?_) (a' := ?_) #[true, true, true, true, true, true, true, true, true, true, true, true, false] rfl rfl (by kernel_rfl) (fun _ _ _ h => h) (Or.inl ⟨by rfl, ?_⟩) ?_ ?_
  rotate_left
  ·intro w'
   go_simp
   with_reducible rfl
  rotate_left
  ·simp only [Act.put, List.setIfInBounds_toArray, List.set_cons_zero, List.set_cons_succ]
   rfl
  refine pure_ (i := 12) (N := (some 8)) (v := ?_) (a' := ?_) #[true, true, true, true, true, true, true, true, true, true, true, true, true] rfl rfl (by kernel_rfl) (fun _ _ _ h => h) (Or.inl ⟨by rfl, ?_⟩) ?_ ?_
  rotate_left
  ·intro w'
   go_simp
   with_reducible rfl
  rotate_left
  ·simp only [Act.put, List.setIfInBounds_toArray, List.set_cons_zero, List.set_cons_succ]
   rfl
  refine done_ (by kernel_rfl) ?_
  clear hS0 x0
  have HE24 : Aside0 (Eff w2 w4 (fun q => ¬ F2 q)) := ⟨(Eff.of_below HBD.out _).then_ (HE3.out.then_ HE4.out (fun q hq => .inl hq)) (fun q hq => .inl hq)⟩
  have HR4 : Aside0 (Kd.R (Kd.int .i64) 3 w4 0 (fun q => w.heap.size ≤ q ∧ q < w2.heap.size) (.slice Ag k.codes.length cg) k.codes) := ⟨Kd.R_kept HR22.out HE24.out.kept (fun q hq hn => hn (HGG.out q hq))⟩
  go_upto_region 15 with (fail)
  go_loopw [63] (fun v wr => ∃ j : Nat, v = .int .i64 j ∧ j ≤ k.codes.length ∧ Aside0 (∃ zs, zs.length = k.codes.length ∧ Kd.R (Kd.int .i64) 3 wr 0 (fun q => w.heap.size ≤ q ∧ q < w2.heap.size) (.slice Ag k.codes.length cg) zs) ∧ Aside0 (Kept w4 wr (fun q => w.heap.size ≤ q ∧ q < w2.heap.size)) ∧ Aside0 (Eff w4 wr (fun q => w.heap.size ≤ q ∧ q < w2.heap.size))) (fun v _ => k.codes.length - (intOf v).toNat)
  case atStart => exact ⟨0, rfl, Nat.zero_le _, ⟨_, rfl, HR4.out⟩, ⟨Kept.refl _ _⟩, ⟨Eff.refl _ _⟩⟩
  case round =>
   obtain ⟨j, rfl, hj, HZ, HKP, HEF⟩ := hrel
   by_cases hlj : j < k.codes.length
   ·obtain ⟨zs, hzl, hzr⟩ := HZ.out
    obtain ⟨g, cap, eg, -, hglt, cells, hgc⟩ := Kd.R_form hzr (by omega)
    rw [hzl] at eg
    injection eg with e1 e2 e3
    subst e1
    subst e3
    have hin : w.heap.size ≤ g ∧ g < w2.heap.size := hzr.1 g (by simp [Value.ownBlock])
    obtain ⟨z0, z1⟩ := Kd.R_celln (0 : Int) hzr (j : Int) (by omega) (by omega)
    have hp := (Kd.R_putg hzr (j : Int) (-7 : Int)).1
    rw [Int.toNat_natCast] at z0 z1 hp
    have etj : (j : Int).toNat = j := Int.toNat_natCast _
    have hjI : (j : Int) < (k.codes.length : Int) := by omega
    have hj0 : 0 ≤ (j : Int) := by omega
    have hj4 : (j : Int) ≤ 4 := by have := HK4.out; omega
    have HP := Aside0.mk hp
    have HZL := Aside0.mk hzl
    have HIN := Aside0.mk hin
    have HJ := Aside0.mk hlj
    clear hp hzl hin hzr hglt hgc hlj hj
    go_wp2
    exact ⟨⟨j + 1, by go_num, by have := HJ.out; omega, ⟨_, by rw [List.length_set]; exact HZL.out, HP.out⟩, ⟨HKP.out.setCell (.inl HIN.out) _⟩, ⟨HEF.out.then_ (Eff.of_grown (S := fun q => q = g) (grown_set _ g j _) (fun q e => (Option.some.inj e).symm)) (fun q e => .inl (by rw [e]; exact HIN.out))⟩⟩, by have := HJ.out; simp [intOf]; omega⟩
   ·obtain rfl : j = k.codes.length := by omega
    clear hlj
    go_wp2
    go_ret
    refine ⟨rfl, ?_, ?_⟩
    ·obtain ⟨L', J', hb, hf⟩ := HRES.out
     exact ⟨L', J', (hb.kept HEF.out.kept (fun q hq => .inl (HGG.out q hq))).mono HSUB.out, hf⟩
    ·exact (Eff.of_below HB2.out _).then_ ((HE24.out.mono (S2 := fun q => ¬ F2 q ∨ (w.heap.size ≤ q ∧ q < w2.heap.size)) (fun q hq => .inl hq)).then_ HEF.out (fun q hq => .inl (.inr hq))) (fun q hq => hq.elim (fun h => .inl (HSUB3.out q h)) (fun h => .inr h.1))
 ·go_upto_region 9 with (fail)
  refine start_ (n := 13) (S := (fun W => W.heap[gb]? = some (.cells #[.int .i64 k.op, .int .i64 k.at_, .slice Ak k.codes.length ck, .int .i64 k.lo, .int .i64 k.hi] 35 (0, 0)))) (ds := []) #[false, false, false, false, false, false, false, false, false, false, false, false, false] (by kernel_rfl) (by kernel_rfl) (by rfl) HXD.out (fun hS0 => ?_)
  refine pure_ (i := 0) (N := (some 29)) (v := ?_) (a' := ?_) #[true, false, false, false, false, false, false, false, false, false, false, false, false] rfl rfl (by kernel_rfl) (fun _ _ _ h => h) (Or.inl ⟨by rfl, ?_⟩) ?_ ?_
  rotate_left
  ·intro w'
   go_simp
   with_reducible rfl
  rotate_left
  ·simp only [Act.put, List.setIfInBounds_toArray, List.set_cons_zero, List.set_cons_succ]
   rfl
  refine pure_ (i := 1) (N := (some 30)) (v := ?_) (a' := ?_) #[true, true, false, false, false, false, false, false, false, false, false, false, false] rfl rfl (by kernel_rfl) (fun _ _ _ h => h) (Or.inl ⟨by rfl, ?_⟩) ?_ ?_
  rotate_left
  ·intro w'
   go_simp
   with_reducible rfl
  rotate_left
  ·simp only [Act.put, List.setIfInBounds_toArray, List.set_cons_zero, List.set_cons_succ]
   rfl
  refine take_ (i := 2) (N := (some 31)) (v := ?_) (a' := ?_) #[true, true, true, false, false, false, false, false, false, false, false, false, false] rfl rfl (by kernel_rfl) (fun _ _ _ h => h) (Or.inl ⟨by rfl, ?_⟩) hS0 ?_ ?_
  rotate_left
  ·intro w' s0
   have y1 := (blk_cell s0 1).trans rfl
   go_simp
   with_reducible rfl
  rotate_left
  ·simp only [Act.put, List.setIfInBounds_toArray, List.set_cons_zero, List.set_cons_succ]
   rfl
  refine pure_ (i := 3) (N := (some 32)) (v := ?_) (a' := ?_) #[true, true, true, true, false, false, false, false, false, false, false, false, false] rfl rfl (by kernel_rfl) (fun _ _ _ h => h) (Or.inl ⟨by rfl, ?_⟩) ?_ ?_
  rotate_left
  ·intro w'
   go_simp
   with_reducible rfl
  rotate_left
  ·simp only [Act.put, List.setIfInBounds_toArray, List.set_cons_zero, List.set_cons_succ]
   rfl
  refine pure_ (i := 5) (N := (some 34)) (v := ?_) (a' := ?_) #[true, true, true, true, false, true, false, false, false, false, false, false, false] rfl rfl (by kernel_rfl) (fun _ _ _ h => h) (Or.inl ⟨by rfl, ?_⟩) ?_ ?_
  rotate_left
  ·intro w'
   go_simp
   with_reducible rfl
  rotate_left
  ·simp only [Act.put, List.setIfInBounds_toArray, List.set_cons_zero, List.set_cons_succ]
   rfl
  refine pure_ (i := 6) (N := (some 35)) (v := ?_) (a' := ?_) #[true, true, true, true, false, true, true, false, false, false, false, false, false] rfl rfl (by kernel_rfl) (fun _ _ _ h => h) (Or.inl ⟨by rfl, ?_⟩) ?_ ?_
  rotate_left
  ·intro w'
   go_simp
   with_reducible rfl
  rotate_left
  ·simp only [Act.put, List.setIfInBounds_toArray, List.set_cons_zero, List.set_cons_succ]
   rfl
  refine take_ (i := 7) (N := (some 36)) (v := ?_) (a' := ?_) #[true, true, true, true, false, true, true, true, false, false, false, false, false] rfl rfl (by kernel_rfl) (fun _ _ _ h => h) (Or.inl ⟨by rfl, ?_⟩) hS0 ?_ ?_
  rotate_left
  ·intro w' s0
   have y1 := (blk_cell s0 1).trans rfl
   go_simp
   with_reducible rfl
  rotate_left
  ·simp only [Act.put, List.setIfInBounds_toArray, List.set_cons_zero, List.set_cons_succ]
   rfl
  refine pure_ (i := 8) (N := (some 37)) (v := ?_) (a' := ?_) #[true, true, true, true, false, true, true, true, true, false, false, false, false] rfl rfl (by kernel_rfl) (fun _ _ _ h => h) (Or.inl ⟨by rfl, ?_⟩) ?_ ?_
  rotate_left
  ·intro w'
   go_simp
   with_reducible rfl
  rotate_left
  ·simp only [Act.put, List.setIfInBounds_toArray, List.set_cons_zero, List.set_cons_succ]
   rfl
  refine take_ (i := 9) (N := (some 38)) (v := ?_) (a' := ?_) #[true, true, true, true, false, true, true, true, true, true, false, false, false] rfl rfl (by kernel_rfl) (fun _ _ _ h => h) (Or.inl ⟨by rfl, ?_⟩) hS0 ?_ ?_
  rotate_left
  ·intro w' s0
   have y2 := (blk_cell s0 2).trans rfl
   go_simp
   with_reducible rfl
  rotate_left
  ·simp only [Act.put, List.setIfInBounds_toArray, List.set_cons_zero, List.set_cons_succ]
   rfl
  clear hS0
  refine one_ (i := 4) (N := (some 33)) #[true, true, true, true, true, true, true, true, true, true, false, false, false] rfl rfl (by kernel_rfl) (by decide) (fun K hK => ?_)
  refine goes_ Try.func24 (by kernel_rfl) rfl #[ptr b, .int .i64 k.at_, .slice Ag k.codes.length cg] (by rfl) rfl rfl (by go_simp; done) ?_
  refine (set_pair HFD.out HBOD.out HFEW.out HN.out HBB.out k.at_ HRD.out HK4.out).mono ?_
  rintro e w3 ⟨r, rfl, he3, ht⟩
  refine ⟨_, rfl, ?_⟩
  have HX3 : Aside0 (w3.heap[gb]? = some (.cells #[.int .i64 k.op, .int .i64 k.at_, .slice Ak k.codes.length ck, .int .i64 k.lo, .int .i64 k.hi] 35 (0, 0))) := ⟨blk_kept HXD.out he3.kept (fun hh => hh HGF.out)⟩
  have HE3 := Aside0.mk he3
  have HT := Aside0.mk ht
  clear he3 ht
  change K (Act.put _ (some 33) _) _
  refine hK.out _ _ HX3.out (fun hS0 => ?_)
  clear hK
  refine norm_ (a' := ?_) ?_ ?_
  rotate_left
  ·simp only [Act.put, List.setIfInBounds_toArray, List.set_cons_zero, List.set_cons_succ]
   rfl
  clear hS0
  refine one_ (i := 10) (N := (some 39)) #[true, true, true, true, true, true, true, true, true, true, true, false, false] rfl rfl (by kernel_rfl) (by decide) (fun K hK => ?_)
  refine goes_ Try.func43 (by kernel_rfl) rfl #[ptr c, .int .i64 k.at_, .slice Ak k.codes.length ck] (by rfl) rfl rfl (by go_simp; done) ?_
  refine (HT.out _ w3 (Below.refl _ _) ⟨_, SL.kept HKD.out HE3.out.kept (fun q hq hn => hn hq), rfl⟩).mono ?_
  rintro e w4 ⟨rfl, hres, he4⟩
  refine ⟨_, rfl, ?_⟩
  have HX4 : Aside0 (w4.heap[gb]? = some (.cells #[.int .i64 k.op, .int .i64 k.at_, .slice Ak k.codes.length ck, .int .i64 k.lo, .int .i64 k.hi] 35 (0, 0))) := ⟨blk_kept HX3.out he4.kept (fun hh => hh HGF.out)⟩
  have HE4 := Aside0.mk he4
  have HRES := Aside0.mk hres
  clear he4 hres
  change K (Act.put _ (some 39) _) _
  refine hK.out _ _ HX4.out (fun hS0 => ?_)
  clear hK
  refine norm_ (a' := ?_) ?_ ?_
  rotate_left
  ·simp only [Act.put, List.setIfInBounds_toArray, List.set_cons_zero, List.set_cons_succ]
   rfl
  refine pure_ (i := 11) (N := (some 40)) (v := ?_) (a' := ?_) #[true, true, true, true, true, true, true, true, true, true, true, true, false] rfl rfl (by kernel_rfl) (fun _ _ _ h => h) (Or.inl ⟨by rfl, ?_⟩) ?_ ?_
  rotate_left
  ·intro w'
   go_simp
   with_reducible rfl
  rotate_left
  ·simp only [Act.put, List.setIfInBounds_toArray, List.set_cons_zero, List.set_cons_succ]
   rfl
  refine pure_ (i := 12) (N := (some 8)) (v := ?_) (a' := ?_) #[true, true, true, true, true, true, true, true, true, true, true, true, true] rfl rfl (by kernel_rfl) (fun _ _ _ h => h) (Or.inl ⟨by rfl, ?_⟩) ?_ ?_
  rotate_left
  ·intro w'
   go_simp
   with_reducible rfl
  rotate_left
  ·simp only [Act.put, List.setIfInBounds_toArray, List.set_cons_zero, List.set_cons_succ]
   rfl
  refine done_ (by kernel_rfl) ?_
  clear hS0 x0
  have HE24 : Aside0 (Eff w2 w4 (fun q => ¬ F2 q)) := ⟨(Eff.of_below HBD.out _).then_ (HE3.out.then_ HE4.out (fun q hq => .inl hq)) (fun q hq => .inl hq)⟩
  have HR4 : Aside0 (Kd.R (Kd.int .i64) 3 w4 0 (fun q => w.heap.size ≤ q ∧ q < w2.heap.size) (.slice Ag k.codes.length cg) k.codes) := ⟨Kd.R_kept HR22.out HE24.out.kept (fun q hq hn => hn (HGG.out q hq))⟩
  go_upto_region 15 with (fail)
  go_loopw [63] (fun v wr => ∃ j : Nat, v = .int .i64 j ∧ j ≤ k.codes.length ∧ Aside0 (∃ zs, zs.length = k.codes.length ∧ Kd.R (Kd.int .i64) 3 wr 0 (fun q => w.heap.size ≤ q ∧ q < w2.heap.size) (.slice Ag k.codes.length cg) zs) ∧ Aside0 (Kept w4 wr (fun q => w.heap.size ≤ q ∧ q < w2.heap.size)) ∧ Aside0 (Eff w4 wr (fun q => w.heap.size ≤ q ∧ q < w2.heap.size))) (fun v _ => k.codes.length - (intOf v).toNat)
  case atStart => exact ⟨0, rfl, Nat.zero_le _, ⟨_, rfl, HR4.out⟩, ⟨Kept.refl _ _⟩, ⟨Eff.refl _ _⟩⟩
  case round =>
   obtain ⟨j, rfl, hj, HZ, HKP, HEF⟩ := hrel
   by_cases hlj : j < k.codes.length
   ·obtain ⟨zs, hzl, hzr⟩ := HZ.out
    obtain ⟨g, cap, eg, -, hglt, cells, hgc⟩ := Kd.R_form hzr (by omega)
    rw [hzl] at eg
    injection eg with e1 e2 e3
    subst e1
    subst e3
    have hin : w.heap.size ≤ g ∧ g < w2.heap.size := hzr.1 g (by simp [Value.ownBlock])
    obtain ⟨z0, z1⟩ := Kd.R_celln (0 : Int) hzr (j : Int) (by omega) (by omega)
    have hp := (Kd.R_putg hzr (j : Int) (-7 : Int)).1
    rw [Int.toNat_natCast] at z0 z1 hp
    have etj : (j : Int).toNat = j := Int.toNat_natCast _
    have hjI : (j : Int) < (k.codes.length : Int) := by omega
    have hj0 : 0 ≤ (j : Int) := by omega
    have hj4 : (j : Int) ≤ 4 := by have := HK4.out; omega
    have HP := Aside0.mk hp
    have HZL := Aside0.mk hzl
    have HIN := Aside0.mk hin
    have HJ := Aside0.mk hlj
    clear hp hzl hin hzr hglt hgc hlj hj
    go_wp2
    exact ⟨⟨j + 1, by go_num, by have := HJ.out; omega, ⟨_, by rw [List.length_set]; exact HZL.out, HP.out⟩, ⟨HKP.out.setCell (.inl HIN.out) _⟩, ⟨HEF.out.then_ (Eff.of_grown (S := fun q => q = g) (grown_set _ g j _) (fun q e => (Option.some.inj e).symm)) (fun q e => .inl (by rw [e]; exact HIN.out))⟩⟩, by have := HJ.out; simp [intOf]; omega⟩
   ·obtain rfl : j = k.codes.length := by omega
    clear hlj
    go_wp2
    go_ret
    refine ⟨rfl, ?_, ?_⟩
    ·obtain ⟨L', J', hb, hf⟩ := HRES.out
     exact ⟨L', J', (hb.kept HEF.out.kept (fun q hq => .inl (HGG.out q hq))).mono HSUB.out, hf⟩
    ·exact (Eff.of_below HB2.out _).then_ ((HE24.out.mono (S2 := fun q => ¬ F2 q ∨ (w.heap.size ≤ q ∧ q < w2.heap.size)) (fun q hq => .inl hq)).then_ HEF.out (fun q hq => .inl (.inr hq))) (fun q hq => hq.elim (fun h => .inl (HSUB3.out q h)) (fun h => .inr h.1))
 ·go_upto_region 9 with (fail)
  refine start_ (n := 13) (S := (fun W => W.heap[gb]? = some (.cells #[.int .i64 k.op, .int .i64 k.at_, .slice Ak k.codes.length ck, .int .i64 k.lo, .int .i64 k.hi] 35 (0, 0)))) (ds := []) #[false, false, false, false, false, false, false, false, false, false, false, false, false] (by kernel_rfl) (by kernel_rfl) (by rfl) HXD.out (fun hS0 => ?_)
  refine pure_ (i := 0) (N := (some 29)) (v := ?_) (a' := ?_) #[true, false, false, false, false, false, false, false, false, false, false, false, false] rfl rfl (by kernel_rfl) (fun _ _ _ h => h) (Or.inl ⟨by rfl, ?_⟩) ?_ ?_
  rotate_left
  ·intro w'
   go_simp
   with_reducible rfl
  rotate_left
  ·simp only [Act.put, List.setIfInBounds_toArray, List.set_cons_zero, List.set_cons_succ]
   rfl
  refine pure_ (i := 1) (N := (some 30)) (v := ?_) (a' := ?_) #[true, true, false, false, false, false, false, false, false, false, false, false, false] rfl rfl (by kernel_rfl) (fun _ _ _ h => h) (Or.inl ⟨by rfl, ?_⟩) ?_ ?_
  rotate_left
  ·intro w'
   go_simp
   with_reducible rfl
  rotate_left
  ·simp only [Act.put, List.setIfInBounds_toArray, List.set_cons_zero, List.set_cons_succ]
   rfl
  refine take_ (i := 2) (N := (some 31)) (v := ?_) (a' := ?_) #[true, true, true, false, false, false, false, false, false, false, false, false, false] rfl rfl (by kernel_rfl) (fun _ _ _ h => h) (Or.inl ⟨by rfl, ?_⟩) hS0 ?_ ?_
  rotate_left
  ·intro w' s0
   have y1 := (blk_cell s0 1).trans rfl
   go_simp
   with_reducible rfl
  rotate_left
  ·simp only [Act.put, List.setIfInBounds_toArray, List.set_cons_zero, List.set_cons_succ]
   rfl
  refine pure_ (i := 3) (N := (some 32)) (v := ?_) (a' := ?_) #[true, true, true, true, false, false, false, false, false, false, false, false, false] rfl rfl (by kernel_rfl) (fun _ _ _ h => h) (Or.inl ⟨by rfl, ?_⟩) ?_ ?_
  rotate_left
  ·intro w'
   go_simp
   with_reducible rfl
  rotate_left
  ·simp only [Act.put, List.setIfInBounds_toArray, List.set_cons_zero, List.set_cons_succ]
   rfl
  refine pure_ (i := 5) (N := (some 34)) (v := ?_) (a' := ?_) #[true, true, true, true, false, true, false, false, false, false, false, false, false] rfl rfl (by kernel_rfl) (fun _ _ _ h => h) (Or.inl ⟨by rfl, ?_⟩) ?_ ?_
  rotate_left
  ·intro w'
   go_simp
   with_reducible rfl
  rotate_left
  ·simp only [Act.put, List.setIfInBounds_toArray, List.set_cons_zero, List.set_cons_succ]
   rfl
  refine pure_ (i := 6) (N := (some 35)) (v := ?_) (a' := ?_) #[true, true, true, true, false, true, true, false, false, false, false, false, false] rfl rfl (by kernel_rfl) (fun _ _ _ h => h) (Or.inl ⟨by rfl, ?_⟩) ?_ ?_
  rotate_left
  ·intro w'
   go_simp
   with_reducible rfl
  rotate_left
  ·simp only [Act.put, List.setIfInBounds_toArray, List.set_cons_zero, List.set_cons_succ]
   rfl
  refine take_ (i := 7) (N := (some 36)) (v := ?_) (a' := ?_) #[true, true, true, true, false, true, true, true, false, false, false, false, false] rfl rfl (by kernel_rfl) (fun _ _ _ h => h) (Or.inl ⟨by rfl, ?_⟩) hS0 ?_ ?_
  rotate_left
  ·intro w' s0
   have y1 := (blk_cell s0 1).trans rfl
   go_simp
   with_reducible rfl
  rotate_left
  ·simp only [Act.put, List.setIfInBounds_toArray, List.set_cons_zero, List.set_cons_succ]
   rfl
  refine pure_ (i := 8) (N := (some 37)) (v := ?_) (a' := ?_) #[true, true, true, true, false, true, true, true, true, false, false, false, false] rfl rfl (by kernel_rfl) (fun _ _ _ h => h) (Or.inl ⟨by rfl, ?_⟩) ?_ ?_
  rotate_left
  ·intro w'
   go_simp
   with_reducible rfl
  rotate_left
  ·simp only [Act.put, List.setIfInBounds_toArray, List.set_cons_zero, List.set_cons_succ]
   rfl
  refine take_ (i := 9) (N := (some 38)) (v := ?_) (a' := ?_) #[true, true, true, true, false, true, true, true, true, true, false, false, false] rfl rfl (by kernel_rfl) (fun _ _ _ h => h) (Or.inl ⟨by rfl, ?_⟩) hS0 ?_ ?_
  rotate_left
  ·intro w' s0
   have y2 := (blk_cell s0 2).trans rfl
   go_simp
   with_reducible rfl
  rotate_left
  ·simp only [Act.put, List.setIfInBounds_toArray, List.set_cons_zero, List.set_cons_succ]
   rfl
  clear hS0
  refine one_ (i := 4) (N := (some 33)) #[true, true, true, true, true, true, true, true, true, true, false, false, false] rfl rfl (by kernel_rfl) (by decide) (fun K hK => ?_)
  refine goes_ Try.func24 (by kernel_rfl) rfl #[ptr b, .int .i64 k.at_, .slice Ag k.codes.length cg] (by rfl) rfl rfl (by go_simp; done) ?_
  refine (set_pair HFD.out HBOD.out HFEW.out HN.out HBB.out k.at_ HRD.out HK4.out).mono ?_
  rintro e w3 ⟨r, rfl, he3, ht⟩
  refine ⟨_, rfl, ?_⟩
  have HX3 : Aside0 (w3.heap[gb]? = some (.cells #[.int .i64 k.op, .int .i64 k.at_, .slice Ak k.codes.length ck, .int .i64 k.lo, .int .i64 k.hi] 35 (0, 0))) := ⟨blk_kept HXD.out he3.kept (fun hh => hh HGF.out)⟩
  have HE3 := Aside0.mk he3
  have HT := Aside0.mk ht
  clear he3 ht
  change K (Act.put _ (some 33) _) _
  refine hK.out _ _ HX3.out (fun hS0 => ?_)
  clear hK
  refine norm_ (a' := ?_) ?_ ?_
  rotate_left
  ·simp only [Act.put, List.setIfInBounds_toArray, List.set_cons_zero, List.set_cons_succ]
   rfl
  clear hS0
  refine one_ (i := 10) (N := (some 39)) #[true, true, true, true, true, true, true, true, true, true, true, false, false] rfl rfl (by kernel_rfl) (by decide) (fun K hK => ?_)
  refine goes_ Try.func43 (by kernel_rfl) rfl #[ptr c, .int .i64 k.at_, .slice Ak k.codes.length ck] (by rfl) rfl rfl (by go_simp; done) ?_
  refine (HT.out _ w3 (Below.refl _ _) ⟨_, SL.kept HKD.out HE3.out.kept (fun q hq hn => hn hq), rfl⟩).mono ?_
  rintro e w4 ⟨rfl, hres, he4⟩
  refine ⟨_, rfl, ?_⟩
  have HX4 : Aside0 (w4.heap[gb]? = some (.cells #[.int .i64 k.op, .int .i64 k.at_, .slice Ak k.codes.length ck, .int .i64 k.lo, .int .i64 k.hi] 35 (0, 0))) := ⟨blk_kept HX3.out he4.kept (fun hh => hh HGF.out)⟩
  have HE4 := Aside0.mk he4
  have HRES := Aside0.mk hres
  clear he4 hres
  change K (Act.put _ (some 39) _) _
  refine hK.out _ _ HX4.out (fun hS0 => ?_)
  clear hK
  refine norm_ (a' := ?_) ?_ ?_
  rotate_left
  ·simp only [Act.put, List.setIfInBounds_toArray, List.set_cons_zero, List.set_cons_succ]
   rfl
  refine pure_ (i := 11) (N := (some 40)) (v := ?_) (a' := ?_) #[true, true, true, true, true, true, true, true, true, true, true, true, false] rfl rfl (by kernel_rfl) (fun _ _ _ h => h) (Or.inl ⟨by rfl, ?_⟩) ?_ ?_
  rotate_left
  ·intro w'
   go_simp
   with_reducible rfl
  rotate_left
  ·simp only [Act.put, List.setIfInBounds_toArray, List.set_cons_zero, List.set_cons_succ]
   rfl
  refine pure_ (i := 12) (N := (some 8)) (v := ?_) (a' := ?_) #[true, true, true, true, true, true, true, true, true, true, true, true, true] rfl rfl (by kernel_rfl) (fun _ _ _ h => h) (Or.inl ⟨by rfl, ?_⟩) ?_ ?_
  rotate_left
  ·intro w'
   go_simp
   with_reducible rfl
  rotate_left
  ·simp only [Act.put, List.setIfInBounds_toArray, List.set_cons_zero, List.set_cons_succ]
   rfl
  refine done_ (by kernel_rfl) ?_
  clear hS0 x0
  have HE24 : Aside0 (Eff w2 w4 (fun q => ¬ F2 q)) := ⟨(Eff.of_below HBD.out _).then_ (HE3.out.then_ HE4.out (fun q hq => .inl hq)) (fun q hq => .inl hq)⟩
  have HR4 : Aside0 (Kd.R (Kd.int .i64) 3 w4 0 (fun q => w.heap.size ≤ q ∧ q < w2.heap.size) (.slice Ag k.codes.length cg) k.codes) := ⟨Kd.R_kept HR22.out HE24.out.kept (fun q hq hn => hn (HGG.out q hq))⟩
  go_upto_region 15 with (fail)
  go_loopw [63] (fun v wr => ∃ j : Nat, v = .int .i64 j ∧ j ≤ k.codes.length ∧ Aside0 (∃ zs, zs.length = k.codes.length ∧ Kd.R (Kd.int .i64) 3 wr 0 (fun q => w.heap.size ≤ q ∧ q < w2.heap.size) (.slice Ag k.codes.length cg) zs) ∧ Aside0 (Kept w4 wr (fun q => w.heap.size ≤ q ∧ q < w2.heap.size)) ∧ Aside0 (Eff w4 wr (fun q => w.heap.size ≤ q ∧ q < w2.heap.size))) (fun v _ => k.codes.length - (intOf v).toNat)
  case atStart => exact ⟨0, rfl, Nat.zero_le _, ⟨_, rfl, HR4.out⟩, ⟨Kept.refl _ _⟩, ⟨Eff.refl _ _⟩⟩
  case round =>
   obtain ⟨j, rfl, hj, HZ, HKP, HEF⟩ := hrel
   by_cases hlj : j < k.codes.length
   ·obtain ⟨zs, hzl, hzr⟩ := HZ.out
    obtain ⟨g, cap, eg, -, hglt, cells, hgc⟩ := Kd.R_form hzr (by omega)
    rw [hzl] at eg
    injection eg with e1 e2 e3
    subst e1
    subst e3
    have hin : w.heap.size ≤ g ∧ g < w2.heap.size := hzr.1 g (by simp [Value.ownBlock])
    obtain ⟨z0, z1⟩ := Kd.R_celln (0 : Int) hzr (j : Int) (by omega) (by omega)
    have hp := (Kd.R_putg hzr (j : Int) (-7 : Int)).1
    rw [Int.toNat_natCast] at z0 z1 hp
    have etj : (j : Int).toNat = j := Int.toNat_natCast _
    have hjI : (j : Int) < (k.codes.length : Int) := by omega
    have hj0 : 0 ≤ (j : Int) := by omega
    have hj4 : (j : Int) ≤ 4 := by have := HK4.out; omega
    have HP := Aside0.mk hp
    have HZL := Aside0.mk hzl
    have HIN := Aside0.mk hin
    have HJ := Aside0.mk hlj
    clear hp hzl hin hzr hglt hgc hlj hj
    go_wp2
    exact ⟨⟨j + 1, by go_num, by have := HJ.out; omega, ⟨_, by rw [List.length_set]; exact HZL.out, HP.out⟩, ⟨HKP.out.setCell (.inl HIN.out) _⟩, ⟨HEF.out.then_ (Eff.of_grown (S := fun q => q = g) (grown_set _ g j _) (fun q e => (Option.some.inj e).symm)) (fun q e => .inl (by rw [e]; exact HIN.out))⟩⟩, by have := HJ.out; simp [intOf]; omega⟩
   ·obtain rfl : j = k.codes.length := by omega
    clear hlj
    go_wp2
    go_ret
    refine ⟨rfl, ?_, ?_⟩
    ·obtain ⟨L', J', hb, hf⟩ := HRES.out
     exact ⟨L', J', (hb.kept HEF.out.kept (fun q hq => .inl (HGG.out q hq))).mono HSUB.out, hf⟩
    ·exact (Eff.of_below HB2.out _).then_ ((HE24.out.mono (S2 := fun q => ¬ F2 q ∨ (w.heap.size ≤ q ∧ q < w2.heap.size)) (fun q hq => .inl hq)).then_ HEF.out (fun q hq => .inl (.inr hq))) (fun q hq => hq.elim (fun h => .inl (HSUB3.out q h)) (fun h => .inr h.1))
 ·go_upto_region 9 with (fail)
  refine start_ (n := 13) (S := (fun W => W.heap[gb]? = some (.cells #[.int .i64 k.op, .int .i64 k.at_, .slice Ak k.codes.length ck, .int .i64 k.lo, .int .i64 k.hi] 35 (0, 0)))) (ds := []) #[false, false, false, false, false, false, false, false, false, false, false, false, false] (by kernel_rfl) (by kernel_rfl) (by rfl) HXD.out (fun hS0 => ?_)
  refine pure_ (i := 0) (N := (some 29)) (v := ?_) (a' := ?_) #[true, false, false, false, false, false, false, false, false, false, false, false, false] rfl rfl (by kernel_rfl) (fun _ _ _ h => h) (Or.inl ⟨by rfl, ?_⟩) ?_ ?_
  rotate_left
  ·intro w'
   go_simp
   with_reducible rfl
  rotate_left
  ·simp only [Act.put, List.setIfInBounds_toArray, List.set_cons_zero, List.set_cons_succ]
   rfl
  refine pure_ (i := 1) (N := (some 30)) (v := ?_) (a' := ?_) #[true, true, false, false, false, false, false, false, false, false, false, false, false] rfl rfl (by kernel_rfl) (fun _ _ _ h => h) (Or.inl ⟨by rfl, ?_⟩) ?_ ?_
  rotate_left
  ·intro w'
   go_simp
   with_reducible rfl
  rotate_left
  ·simp only [Act.put, List.setIfInBounds_toArray, List.set_cons_zero, List.set_cons_succ]
   rfl
  refine take_ (i := 2) (N := (some 31)) (v := ?_) (a' := ?_) #[true, true, true, false, false, false, false, false, false, false, false, false, false] rfl rfl (by kernel_rfl) (fun _ _ _ h => h) (Or.inl ⟨by rfl, ?_⟩) hS0 ?_ ?_
  rotate_left
  ·intro w' s0
   have y1 := (blk_cell s0 1).trans rfl
   go_simp
   with_reducible rfl
  rotate_left
  ·simp only [Act.put, List.setIfInBounds_toArray, List.set_cons_zero, List.set_cons_succ]
   rfl
  refine pure_ (i := 3) (N := (some 32)) (v := ?_) (a' := ?_) #[true, true, true, true, false, false, false, false, false, false, false, false, false] rfl rfl (by kernel_rfl) (fun _ _ _ h => h) (Or.inl ⟨by rfl, ?_⟩) ?_ ?_
  rotate_left
  ·intro w'
   go_simp
   with_reducible rfl
  rotate_left
  ·simp only [Act.put, List.setIfInBounds_toArray, List.set_cons_zero, List.set_cons_succ]
   rfl
  refine pure_ (i := 5) (N := (some 34)) (v := ?_) (a' := ?_) #[true, true, true, true, false, true, false, false, false, false, false, false, false] rfl rfl (by kernel_rfl) (fun _ _ _ h => h) (Or.inl ⟨by rfl, ?_⟩) ?_ ?_
  rotate_left
  ·intro w'
   go_simp
   with_reducible rfl
  rotate_left
  ·simp only [Act.put, List.setIfInBounds_toArray, List.set_cons_zero, List.set_cons_succ]
   rfl
  refine pure_ (i := 6) (N := (some 35)) (v := ?_) (a' := ?_) #[true, true, true, true, false, true, true, false, false, false, false, false, false] rfl rfl (by kernel_rfl) (fun _ _ _ h => h) (Or.inl ⟨by rfl, ?_⟩) ?_ ?_
  rotate_left
  ·intro w'
   go_simp
   with_reducible rfl
  rotate_left
  ·simp only [Act.put, List.setIfInBounds_toArray, List.set_cons_zero, List.set_cons_succ]
   rfl
  refine take_ (i := 7) (N := (some 36)) (v := ?_) (a' := ?_) #[true, true, true, true, false, true, true, true, false, false, false, false, false] rfl rfl (by kernel_rfl) (fun _ _ _ h => h) (Or.inl ⟨by rfl, ?_⟩) hS0 ?_ ?_
  rotate_left
  ·intro w' s0
   have y1 := (blk_cell s0 1).trans rfl
   go_simp
   with_reducible rfl
  rotate_left
  ·simp only [Act.put, List.setIfInBounds_toArray, List.set_cons_zero, List.set_cons_succ]
   rfl
  refine pure_ (i := 8) (N := (some 37)) (v := ?_) (a' := ?_) #[true, true, true, true, false, true, true, true, true, false, false, false, false] rfl rfl (by kernel_rfl) (fun _ _ _ h => h) (Or.inl ⟨by rfl, ?_⟩) ?_ ?_
  rotate_left
  ·intro w'
   go_simp
   with_reducible rfl
  rotate_left
  ·simp only [Act.put, List.setIfInBounds_toArray, List.set_cons_zero, List.set_cons_succ]
   rfl
  refine take_ (i := 9) (N := (some 38)) (v := ?_) (a' := ?_) #[true, true, true, true, false, true, true, true, true, true, false, false, false] rfl rfl (by kernel_rfl) (fun _ _ _ h => h) (Or.inl ⟨by rfl, ?_⟩) hS0 ?_ ?_
  rotate_left
  ·intro w' s0
   have y2 := (blk_cell s0 2).trans rfl
   go_simp
   with_reducible rfl
  rotate_left
  ·simp only [Act.put, List.setIfInBounds_toArray, List.set_cons_zero, List.set_cons_succ]
   rfl
  clear hS0
  refine one_ (i := 4) (N := (some 33)) #[true, true, true, true, true, true, true, true, true, true, false, false, false] rfl rfl (by kernel_rfl) (by decide) (fun K hK => ?_)
  refine goes_ Try.func24 (by kernel_rfl) rfl #[ptr b, .int .i64 k.at_, .slice Ag k.codes.length cg] (by rfl) rfl rfl (by go_simp; done) ?_
  refine (set_pair HFD.out HBOD.out HFEW.out HN.out HBB.out k.at_ HRD.out HK4.out).mono ?_
  rintro e w3 ⟨r, rfl, he3, ht⟩
  refine ⟨_, rfl, ?_⟩
  have HX3 : Aside0 (w3.heap[gb]? = some (.cells #[.int .i64 k.op, .int .i64 k.at_, .slice Ak k.codes.length ck, .int .i64 k.lo, .int .i64 k.hi] 35 (0, 0))) := ⟨blk_kept HXD.out he3.kept (fun hh => hh HGF.out)⟩
  have HE3 := Aside0.mk he3
  have HT := Aside0.mk ht
  clear he3 ht
  change K (Act.put _ (some 33) _) _
  refine hK.out _ _ HX3.out (fun hS0 => ?_)
  clear hK
  refine norm_ (a' := ?_) ?_ ?_
  rotate_left
  ·simp only [Act.put, List.setIfInBounds_toArray, List.set_cons_zero, List.set_cons_succ]
   rfl
  clear hS0
  refine one_ (i := 10) (N := (some 39)) #[true, true, true, true, true, true, true, true, true, true, true, false, false] rfl rfl (by kernel_rfl) (by decide) (fun K hK => ?_)
  refine goes_ Try.func43 (by kernel_rfl) rfl #[ptr c, .int .i64 k.at_, .slice Ak k.codes.length ck] (by rfl) rfl rfl (by go_simp; done) ?_
  refine (HT.out _ w3 (Below.refl _ _) ⟨_, SL.kept HKD.out HE3.out.kept (fun q hq hn => hn hq), rfl⟩).mono ?_
  rintro e w4 ⟨rfl, hres, he4⟩
  refine ⟨_, rfl, ?_⟩
  have HX4 : Aside0 (w4.heap[gb]? = some (.cells #[.int .i64 k.op, .int .i64 k.at_, .slice Ak k.codes.length ck, .int .i64 k.lo, .int .i64 k.hi] 35 (0, 0))) := ⟨blk_kept HX3.out he4.kept (fun hh => hh HGF.out)⟩
  have HE4 := Aside0.mk he4
  have HRES := Aside0.mk hres
  clear he4 hres
  change K (Act.put _ (some 39) _) _
  refine hK.out _ _ HX4.out (fun hS0 => ?_)
  clear hK
  refine norm_ (a' := ?_) ?_ ?_
  rotate_left
  ·simp only [Act.put, List.setIfInBounds_toArray, List.set_cons_zero, List.set_cons_succ]
   rfl
  refine pure_ (i := 11) (N := (some 40)) (v := ?_) (a' := ?_) #[true, true, true, true, true, true, true, true, true, true, true, true, false] rfl rfl (by kernel_rfl) (fun _ _ _ h => h) (Or.inl ⟨by rfl, ?_⟩) ?_ ?_
  rotate_left
  ·intro w'
   go_simp
   with_reducible rfl
  rotate_left
  ·simp only [Act.put, List.setIfInBounds_toArray, List.set_cons_zero, List.set_cons_succ]
   rfl
  refine pure_ (i := 12) (N := (some 8)) (v := ?_) (a' := ?_) #[true, true, true, true, true, true, true, true, true, true, true, true, true] rfl rfl (by kernel_rfl) (fun _ _ _ h => h) (Or.inl ⟨by rfl, ?_⟩) ?_ ?_
  rotate_left
  ·intro w'
   go_simp
   with_reducible rfl
  rotate_left
  ·simp only [Act.put, List.setIfInBounds_toArray, List.set_cons_zero, List.set_cons_succ]
   rfl
  refine done_ (by kernel_rfl) ?_
  clear hS0 x0
  have HE24 : Aside0 (Eff w2 w4 (fun q => ¬ F2 q)) := ⟨(Eff.of_below HBD.out _).then_ (HE3.out.then_ HE4.out (fun q hq => .inl hq)) (fun q hq => .inl hq)⟩
  have HR4 : Aside0 (Kd.R (Kd.int .i64) 3 w4 0 (fun q => w.heap.size ≤ q ∧ q < w2.heap.size) (.slice Ag k.codes.length cg) k.codes) := ⟨Kd.R_kept HR22.out HE24.out.kept (fun q hq hn => hn (HGG.out q hq))⟩
  go_upto_region 15 with (fail)
  go_loopw [63] (fun v wr => ∃ j : Nat, v = .int .i64 j ∧ j ≤ k.codes.length ∧ Aside0 (∃ zs, zs.length = k.codes.length ∧ Kd.R (Kd.int .i64) 3 wr 0 (fun q => w.heap.size ≤ q ∧ q < w2.heap.size) (.slice Ag k.codes.length cg) zs) ∧ Aside0 (Kept w4 wr (fun q => w.heap.size ≤ q ∧ q < w2.heap.size)) ∧ Aside0 (Eff w4 wr (fun q => w.heap.size ≤ q ∧ q < w2.heap.size))) (fun v _ => k.codes.length - (intOf v).toNat)
  case atStart => exact ⟨0, rfl, Nat.zero_le _, ⟨_, rfl, HR4.out⟩, ⟨Kept.refl _ _⟩, ⟨Eff.refl _ _⟩⟩
  case round =>
   obtain ⟨j, rfl, hj, HZ, HKP, HEF⟩ := hrel
   by_cases hlj : j < k.codes.length
   ·obtain ⟨zs, hzl, hzr⟩ := HZ.out
    obtain ⟨g, cap, eg, -, hglt, cells, hgc⟩ := Kd.R_form hzr (by omega)
    rw [hzl] at eg
    injection eg with e1 e2 e3
    subst e1
    subst e3
    have hin : w.heap.size ≤ g ∧ g < w2.heap.size := hzr.1 g (by simp [Value.ownBlock])
    obtain ⟨z0, z1⟩ := Kd.R_celln (0 : Int) hzr (j : Int) (by omega) (by omega)
    have hp := (Kd.R_putg hzr (j : Int) (-7 : Int)).1
    rw [Int.toNat_natCast] at z0 z1 hp
    have etj : (j : Int).toNat = j := Int.toNat_natCast _
    have hjI : (j : Int) < (k.codes.length : Int) := by omega
    have hj0 : 0 ≤ (j : Int) := by omega
    have hj4 : (j : Int) ≤ 4 := by have := HK4.out; omega
    have HP := Aside0.mk hp
    have HZL := Aside0.mk hzl
    have HIN := Aside0.mk hin
    have HJ := Aside0.mk hlj
    clear hp hzl hin hzr hglt hgc hlj hj
    go_wp2
    exact ⟨⟨j + 1, by go_num, by have := HJ.out; omega, ⟨_, by rw [List.length_set]; exact HZL.out, HP.out⟩, ⟨HKP.out.setCell (.inl HIN.out) _⟩, ⟨HEF.out.then_ (Eff.of_grown (S := fun q => q = g) (grown_set _ g j _) (fun q e => (Option.some.inj e).symm)) (fun q e => .inl (by rw [e]; exact HIN.out))⟩⟩, by have := HJ.out; simp [intOf]; omega⟩
   ·obtain rfl : j = k.codes.length := by omega
    clear hlj
    go_wp2
    go_ret
    refine ⟨rfl, ?_, ?_⟩
    ·obtain ⟨L', J', hb, hf⟩ := HRES.out
     exact ⟨L', J', (hb.kept HEF.out.kept (fun q hq => .inl (HGG.out q hq))).mono HSUB.out, hf⟩
    ·exact (Eff.of_below HB2.out _).then_ ((HE24.out.mono (S2 := fun q => ¬ F2 q ∨ (w.heap.size ≤ q ∧ q < w2.heap.size)) (fun q hq => .inl hq)).then_ HEF.out (fun q hq => .inl (.inr hq))) (fun q hq => hq.elim (fun h => .inl (HSUB3.out q h)) (fun h => .inr h.1))
 ·go_upto_region 11 with (fail)
  refine start_ (n := 9) (S := (fun W => W.heap[gb]? = some (.cells #[.int .i64 k.op, .int .i64 k.at_, .slice Ak k.codes.length ck, .int .i64 k.lo, .int .i64 k.hi] 35 (0, 0)))) (ds := []) #[false, false, false, false, false, false, false, false, false] (by kernel_rfl) (by kernel_rfl) (by rfl) HXD.out (fun hS0 => ?_)
  refine pure_ (i := 0) (N := (some 43)) (v := ?_) (a' := ?_) #[true, false, false, false, false, false, false, false, false] rfl rfl (by kernel_rfl) (fun _ _ _ h => h) (Or.inl ⟨by rfl, ?_⟩) ?_ ?_
  rotate_left
  ·intro w'
   go_simp
   with_reducible rfl
  rotate_left
  ·simp only [Act.put, List.setIfInBounds_toArray, List.set_cons_zero, List.set_cons_succ]
   rfl
  refine pure_ (i := 1) (N := (some 44)) (v := ?_) (a' := ?_) #[true, true, false, false, false, false, false, false, false] rfl rfl (by kernel_rfl) (fun _ _ _ h => h) (Or.inl ⟨by rfl, ?_⟩) ?_ ?_
  rotate_left
  ·intro w'
   go_simp
   with_reducible rfl
  rotate_left
  ·simp only [Act.put, List.setIfInBounds_toArray, List.set_cons_zero, List.set_cons_succ]
   rfl
  refine pure_ (i := 3) (N := (some 46)) (v := ?_) (a' := ?_) #[true, true, false, true, false, false, false, false, false] rfl rfl (by kernel_rfl) (fun _ _ _ h => h) (Or.inl ⟨by rfl, ?_⟩) ?_ ?_
  rotate_left
  ·intro w'
   go_simp
   with_reducible rfl
  rotate_left
  ·simp only [Act.put, List.setIfInBounds_toArray, List.set_cons_zero, List.set_cons_succ]
   rfl
  refine pure_ (i := 4) (N := (some 47)) (v := ?_) (a' := ?_) #[true, true, false, true, true, false, false, false, false] rfl rfl (by kernel_rfl) (fun _ _ _ h => h) (Or.inl ⟨by rfl, ?_⟩) ?_ ?_
  rotate_left
  ·intro w'
   go_simp
   with_reducible rfl
  rotate_left
  ·simp only [Act.put, List.setIfInBounds_toArray, List.set_cons_zero, List.set_cons_succ]
   rfl
  refine take_ (i := 5) (N := (some 48)) (v := ?_) (a' := ?_) #[true, true, false, true, true, true, false, false, false] rfl rfl (by kernel_rfl) (fun _ _ _ h => h) (Or.inl ⟨by rfl, ?_⟩) hS0 ?_ ?_
  rotate_left
  ·intro w' s0
   have y2 := (blk_cell s0 2).trans rfl
   go_simp
   with_reducible rfl
  rotate_left
  ·simp only [Act.put, List.setIfInBounds_toArray, List.set_cons_zero, List.set_cons_succ]
   rfl
  clear hS0
  refine one_ (i := 2) (N := (some 45)) #[true, true, true, true, true, true, false, false, false] rfl rfl (by kernel_rfl) (by decide) (fun K hK => ?_)
  refine goes_ Try.func25 (by kernel_rfl) rfl #[ptr b, .slice Ag k.codes.length cg] (by rfl) rfl rfl (by go_simp; done) ?_
  refine (ahead_pair HFD.out HBOD.out HFEW.out HN.out HBB.out HRD.out HK4.out).mono ?_
  rintro e w3 ⟨r, rfl, he3, ht⟩
  refine ⟨_, rfl, ?_⟩
  have HX3 : Aside0 (w3.heap[gb]? = some (.cells #[.int .i64 k.op, .int .i64 k.at_, .slice Ak k.codes.length ck, .int .i64 k.lo, .int .i64 k.hi] 35 (0, 0))) := ⟨blk_kept HXD.out he3.kept (fun hh => hh HGF.out)⟩
  have HE3 := Aside0.mk he3
  have HT := Aside0.mk ht
  clear he3 ht
  change K (Act.put _ (some 45) _) _
  refine hK.out _ _ HX3.out (fun hS0 => ?_)
  clear hK
  refine norm_ (a' := ?_) ?_ ?_
  rotate_left
  ·simp only [Act.put, List.setIfInBounds_toArray, List.set_cons_zero, List.set_cons_succ]
   rfl
  clear hS0
  refine one_ (i := 6) (N := (some 49)) #[true, true, true, true, true, true, true, false, false] rfl rfl (by kernel_rfl) (by decide) (fun K hK => ?_)
  refine goes_ Try.func44 (by kernel_rfl) rfl #[ptr c, .slice Ak k.codes.length ck] (by rfl) rfl rfl (by go_simp; done) ?_
  refine (HT.out _ w3 (Below.refl _ _) ⟨_, SL.kept HKD.out HE3.out.kept (fun q hq hn => hn hq), rfl⟩).mono ?_
  rintro e w4 ⟨rfl, hres, he4⟩
  refine ⟨_, rfl, ?_⟩
  have HX4 : Aside0 (w4.heap[gb]? = some (.cells #[.int .i64 k.op, .int .i64 k.at_, .slice Ak k.codes.length ck, .int .i64 k.lo, .int .i64 k.hi] 35 (0, 0))) := ⟨blk_kept HX3.out he4.kept (fun hh => hh HGF.out)⟩
  have HE4 := Aside0.mk he4
  have HRES := Aside0.mk hres
  clear he4 hres
  change K (Act.put _ (some 49) _) _
  refine hK.out _ _ HX4.out (fun hS0 => ?_)
  clear hK
  refine norm_ (a' := ?_) ?_ ?_
  rotate_left
  ·simp only [Act.put, List.setIfInBounds_toArray, List.set_cons_zero, List.set_cons_succ]
   rfl
  refine pure_ (i := 7) (N := (some 50)) (v := ?_) (a' := ?_) #[true, true, true, true, true, true, true, true, false] rfl rfl (by kernel_rfl) (fun _ _ _ h => h) (Or.inl ⟨by rfl, ?_⟩) ?_ ?_
  rotate_left
  ·intro w'
   go_simp
   with_reducible rfl
  rotate_left
  ·simp only [Act.put, List.setIfInBounds_toArray, List.set_cons_zero, List.set_cons_succ]
   rfl
  refine pure_ (i := 8) (N := (some 8)) (v := ?_) (a' := ?_) #[true, true, true, true, true, true, true, true, true] rfl rfl (by kernel_rfl) (fun _ _ _ h => h) (Or.inl ⟨by rfl, ?_⟩) ?_ ?_
  rotate_left
  ·intro w'
   go_simp
   with_reducible rfl
  rotate_left
  ·simp only [Act.put, List.setIfInBounds_toArray, List.set_cons_zero, List.set_cons_succ]
   rfl
  refine done_ (by kernel_rfl) ?_
  clear hS0 x0
  have HE24 : Aside0 (Eff w2 w4 (fun q => ¬ F2 q)) := ⟨(Eff.of_below HBD.out _).then_ (HE3.out.then_ HE4.out (fun q hq => .inl hq)) (fun q hq => .inl hq)⟩
  have HR4 : Aside0 (Kd.R (Kd.int .i64) 3 w4 0 (fun q => w.heap.size ≤ q ∧ q < w2.heap.size) (.slice Ag k.codes.length cg) k.codes) := ⟨Kd.R_kept HR22.out HE24.out.kept (fun q hq hn => hn (HGG.out q hq))⟩
  go_upto_region 15 with (fail)
  go_loopw [63] (fun v wr => ∃ j : Nat, v = .int .i64 j ∧ j ≤ k.codes.length ∧ Aside0 (∃ zs, zs.length = k.codes.length ∧ Kd.R (Kd.int .i64) 3 wr 0 (fun q => w.heap.size ≤ q ∧ q < w2.heap.size) (.slice Ag k.codes.length cg) zs) ∧ Aside0 (Kept w4 wr (fun q => w.heap.size ≤ q ∧ q < w2.heap.size)) ∧ Aside0 (Eff w4 wr (fun q => w.heap.size ≤ q ∧ q < w2.heap.size))) (fun v _ => k.codes.length - (intOf v).toNat)
  case atStart => exact ⟨0, rfl, Nat.zero_le _, ⟨_, rfl, HR4.out⟩, ⟨Kept.refl _ _⟩, ⟨Eff.refl _ _⟩⟩
  case round =>
   obtain ⟨j, rfl, hj, HZ, HKP, HEF⟩ := hrel
   by_cases hlj : j < k.codes.length
   ·obtain ⟨zs, hzl, hzr⟩ := HZ.out
    obtain ⟨g, cap, eg, -, hglt, cells, hgc⟩ := Kd.R_form hzr (by omega)
    rw [hzl] at eg
    injection eg with e1 e2 e3
    subst e1
    subst e3
    have hin : w.heap.size ≤ g ∧ g < w2.heap.size := hzr.1 g (by simp [Value.ownBlock])
    obtain ⟨z0, z1⟩ := Kd.R_celln (0 : Int) hzr (j : Int) (by omega) (by omega)
    have hp := (Kd.R_putg hzr (j : Int) (-7 : Int)).1
    rw [Int.toNat_natCast] at z0 z1 hp
    have etj : (j : Int).toNat = j := Int.toNat_natCast _
    have hjI : (j : Int) < (k.codes.length : Int) := by omega
    have hj0 : 0 ≤ (j : Int) := by omega
    have hj4 : (j : Int) ≤ 4 := by have := HK4.out; omega
    have HP := Aside0.mk hp
    have HZL := Aside0.mk hzl
    have HIN := Aside0.mk hin
    have HJ := Aside0.mk hlj
    clear hp hzl hin hzr hglt hgc hlj hj
    go_wp2
    exact ⟨⟨j + 1, by go_num, by have := HJ.out; omega, ⟨_, by rw [List.length_set]; exact HZL.out, HP.out⟩, ⟨HKP.out.setCell (.inl HIN.out) _⟩, ⟨HEF.out.then_ (Eff.of_grown (S := fun q => q = g) (grown_set _ g j _) (fun q e => (Option.some.inj e).symm)) (fun q e => .inl (by rw [e]; exact HIN.out))⟩⟩, by have := HJ.out; simp [intOf]; omega⟩
   ·obtain rfl : j = k.codes.length := by omega
    clear hlj
    go_wp2
    go_ret
    refine ⟨rfl, ?_, ?_⟩
    ·obtain ⟨L', J', hb, hf⟩ := HRES.out
     exact ⟨L', J', (hb.kept HEF.out.kept (fun q hq => .inl (HGG.out q hq))).mono HSUB.out, hf⟩
    ·exact (Eff.of_below HB2.out _).then_ ((HE24.out.mono (S2 := fun q => ¬ F2 q ∨ (w.heap.size ≤ q ∧ q < w2.heap.size)) (fun q hq => .inl hq)).then_ HEF.out (fun q hq => .inl (.inr hq))) (fun q hq => hq.elim (fun h => .inl (HSUB3.out q h)) (fun h => .inr h.1))
 ·go_upto_region 13 with (fail)
  refine start_ (n := 9) (S := (fun W => W.heap[gb]? = some (.cells #[.int .i64 k.op, .int .i64 k.at_, .slice Ak k.codes.length ck, .int .i64 k.lo, .int .i64 k.hi] 35 (0, 0)))) (ds := []) #[false, false, false, false, false, false, false, false, false] (by kernel_rfl) (by kernel_rfl) (by rfl) HXD.out (fun hS0 => ?_)
  refine pure_ (i := 0) (N := (some 53)) (v := ?_) (a' := ?_) #[true, false, false, false, false, false, false, false, false] rfl rfl (by kernel_rfl) (fun _ _ _ h => h) (Or.inl ⟨by rfl, ?_⟩) ?_ ?_
  rotate_left
  ·intro w'
   go_simp
   with_reducible rfl
  rotate_left
  ·simp only [Act.put, List.setIfInBounds_toArray, List.set_cons_zero, List.set_cons_succ]
   rfl
  refine pure_ (i := 1) (N := (some 54)) (v := ?_) (a' := ?_) #[true, true, false, false, false, false, false, false, false] rfl rfl (by kernel_rfl) (fun _ _ _ h => h) (Or.inl ⟨by rfl, ?_⟩) ?_ ?_
  rotate_left
  ·intro w'
   go_simp
   with_reducible rfl
  rotate_left
  ·simp only [Act.put, List.setIfInBounds_toArray, List.set_cons_zero, List.set_cons_succ]
   rfl
  refine pure_ (i := 3) (N := (some 56)) (v := ?_) (a' := ?_) #[true, true, false, true, false, false, false, false, false] rfl rfl (by kernel_rfl) (fun _ _ _ h => h) (Or.inl ⟨by rfl, ?_⟩) ?_ ?_
  rotate_left
  ·intro w'
   go_simp
   with_reducible rfl
  rotate_left
  ·simp only [Act.put, List.setIfInBounds_toArray, List.set_cons_zero, List.set_cons_succ]
   rfl
  refine pure_ (i := 4) (N := (some 57)) (v := ?_) (a' := ?_) #[true, true, false, true, true, false, false, false, false] rfl rfl (by kernel_rfl) (fun _ _ _ h => h) (Or.inl ⟨by rfl, ?_⟩) ?_ ?_
  rotate_left
  ·intro w'
   go_simp
   with_reducible rfl
  rotate_left
  ·simp only [Act.put, List.setIfInBounds_toArray, List.set_cons_zero, List.set_cons_succ]
   rfl
  refine take_ (i := 5) (N := (some 58)) (v := ?_) (a' := ?_) #[true, true, false, true, true, true, false, false, false] rfl rfl (by kernel_rfl) (fun _ _ _ h => h) (Or.inl ⟨by rfl, ?_⟩) hS0 ?_ ?_
  rotate_left
  ·intro w' s0
   have y2 := (blk_cell s0 2).trans rfl
   go_simp
   with_reducible rfl
  rotate_left
  ·simp only [Act.put, List.setIfInBounds_toArray, List.set_cons_zero, List.set_cons_succ]
   rfl
  clear hS0
  refine one_ (i := 2) (N := (some 55)) #[true, true, true, true, true, true, false, false, false] rfl rfl (by kernel_rfl) (by decide) (fun K hK => ?_)
  refine goes_ Try.func26 (by kernel_rfl) rfl #[ptr b, .slice Ag k.codes.length cg] (by rfl) rfl rfl (by go_simp; done) ?_
  refine (behind_pair HFD.out HBOD.out HFEW.out HN.out HBB.out HRD.out HK4.out).mono ?_
  rintro e w3 ⟨r, rfl, he3, ht⟩
  refine ⟨_, rfl, ?_⟩
  have HX3 : Aside0 (w3.heap[gb]? = some (.cells #[.int .i64 k.op, .int .i64 k.at_, .slice Ak k.codes.length ck, .int .i64 k.lo, .int .i64 k.hi] 35 (0, 0))) := ⟨blk_kept HXD.out he3.kept (fun hh => hh HGF.out)⟩
  have HE3 := Aside0.mk he3
  have HT := Aside0.mk ht
  clear he3 ht
  change K (Act.put _ (some 55) _) _
  refine hK.out _ _ HX3.out (fun hS0 => ?_)
  clear hK
  refine norm_ (a' := ?_) ?_ ?_
  rotate_left
  ·simp only [Act.put, List.setIfInBounds_toArray, List.set_cons_zero, List.set_cons_succ]
   rfl
  clear hS0
  refine one_ (i := 6) (N := (some 59)) #[true, true, true, true, true, true, true, false, false] rfl rfl (by kernel_rfl) (by decide) (fun K hK => ?_)
  refine goes_ Try.func45 (by kernel_rfl) rfl #[ptr c, .slice Ak k.codes.length ck] (by rfl) rfl rfl (by go_simp; done) ?_
  refine (HT.out _ w3 (Below.refl _ _) ⟨_, SL.kept HKD.out HE3.out.kept (fun q hq hn => hn hq), rfl⟩).mono ?_
  rintro e w4 ⟨rfl, hres, he4⟩
  refine ⟨_, rfl, ?_⟩
  have HX4 : Aside0 (w4.heap[gb]? = some (.cells #[.int .i64 k.op, .int .i64 k.at_, .slice Ak k.codes.length ck, .int .i64 k.lo, .int .i64 k.hi] 35 (0, 0))) := ⟨blk_kept HX3.out he4.kept (fun hh => hh HGF.out)⟩
  have HE4 := Aside0.mk he4
  have HRES := Aside0.mk hres
  clear he4 hres
  change K (Act.put _ (some 59) _) _
  refine hK.out _ _ HX4.out (fun hS0 => ?_)
  clear hK
  refine norm_ (a' := ?_) ?_ ?_
  rotate_left
  ·simp only [Act.put, List.setIfInBounds_toArray, List.set_cons_zero, List.set_cons_succ]
   rfl
  refine pure_ (i := 7) (N := (some 60)) (v := ?_) (a' := ?_) #[true, true, true, true, true, true, true, true, false] rfl rfl (by kernel_rfl) (fun _ _ _ h => h) (Or.inl ⟨by rfl, ?_⟩) ?_ ?_
  rotate_left
  ·intro w'
   go_simp
   with_reducible rfl
  rotate_left
  ·simp only [Act.put, List.setIfInBounds_toArray, List.set_cons_zero, List.set_cons_succ]
   rfl
  refine pure_ (i := 8) (N := (some 8)) (v := ?_) (a' := ?_) #[true, true, true, true, true, true, true, true, true] rfl rfl (by kernel_rfl) (fun _ _ _ h => h) (Or.inl ⟨by rfl, ?_⟩) ?_ ?_
  rotate_left
  ·intro w'
   go_simp
   with_reducible rfl
  rotate_left
  ·simp only [Act.put, List.setIfInBounds_toArray, List.set_cons_zero, List.set_cons_succ]
   rfl
  refine done_ (by kernel_rfl) ?_
  clear hS0 x0
  have HE24 : Aside0 (Eff w2 w4 (fun q => ¬ F2 q)) := ⟨(Eff.of_below HBD.out _).then_ (HE3.out.then_ HE4.out (fun q hq => .inl hq)) (fun q hq => .inl hq)⟩
  have HR4 : Aside0 (Kd.R (Kd.int .i64) 3 w4 0 (fun q => w.heap.size ≤ q ∧ q < w2.heap.size) (.slice Ag k.codes.length cg) k.codes) := ⟨Kd.R_kept HR22.out HE24.out.kept (fun q hq hn => hn (HGG.out q hq))⟩
  go_upto_region 15 with (fail)
  go_loopw [63] (fun v wr => ∃ j : Nat, v = .int .i64 j ∧ j ≤ k.codes.length ∧ Aside0 (∃ zs, zs.length = k.codes.length ∧ Kd.R (Kd.int .i64) 3 wr 0 (fun q => w.heap.size ≤ q ∧ q < w2.heap.size) (.slice Ag k.codes.length cg) zs) ∧ Aside0 (Kept w4 wr (fun q => w.heap.size ≤ q ∧ q < w2.heap.size)) ∧ Aside0 (Eff w4 wr (fun q => w.heap.size ≤ q ∧ q < w2.heap.size))) (fun v _ => k.codes.length - (intOf v).toNat)
  case atStart => exact ⟨0, rfl, Nat.zero_le _, ⟨_, rfl, HR4.out⟩, ⟨Kept.refl _ _⟩, ⟨Eff.refl _ _⟩⟩
  case round =>
   obtain ⟨j, rfl, hj, HZ, HKP, HEF⟩ := hrel
   by_cases hlj : j < k.codes.length
   ·obtain ⟨zs, hzl, hzr⟩ := HZ.out
    obtain ⟨g, cap, eg, -, hglt, cells, hgc⟩ := Kd.R_form hzr (by omega)
    rw [hzl] at eg
    injection eg with e1 e2 e3
    subst e1
    subst e3
    have hin : w.heap.size ≤ g ∧ g < w2.heap.size := hzr.1 g (by simp [Value.ownBlock])
    obtain ⟨z0, z1⟩ := Kd.R_celln (0 : Int) hzr (j : Int) (by omega) (by omega)
    have hp := (Kd.R_putg hzr (j : Int) (-7 : Int)).1
    rw [Int.toNat_natCast] at z0 z1 hp
    have etj : (j : Int).toNat = j := Int.toNat_natCast _
    have hjI : (j : Int) < (k.codes.length : Int) := by omega
    have hj0 : 0 ≤ (j : Int) := by omega
    have hj4 : (j : Int) ≤ 4 := by have := HK4.out; omega
    have HP := Aside0.mk hp
    have HZL := Aside0.mk hzl
    have HIN := Aside0.mk hin
    have HJ := Aside0.mk hlj
    clear hp hzl hin hzr hglt hgc hlj hj
    go_wp2
    exact ⟨⟨j + 1, by go_num, by have := HJ.out; omega, ⟨_, by rw [List.length_set]; exact HZL.out, HP.out⟩, ⟨HKP.out.setCell (.inl HIN.out) _⟩, ⟨HEF.out.then_ (Eff.of_grown (S := fun q => q = g) (grown_set _ g j _) (fun q e => (Option.some.inj e).symm)) (fun q e => .inl (by rw [e]; exact HIN.out))⟩⟩, by have := HJ.out; simp [intOf]; omega⟩
   ·obtain rfl : j = k.codes.length := by omega
    clear hlj
    go_wp2
    go_ret
    refine ⟨rfl, ?_, ?_⟩
    ·obtain ⟨L', J', hb, hf⟩ := HRES.out
     exact ⟨L', J', (hb.kept HEF.out.kept (fun q hq => .inl (HGG.out q hq))).mono HSUB.out, hf⟩
    ·exact (Eff.of_below HB2.out _).then_ ((HE24.out.mono (S2 := fun q => ¬ F2 q ∨ (w.heap.size ≤ q ∧ q < w2.heap.size)) (fun q hq => .inl hq)).then_ HEF.out (fun q hq => .inl (.inr hq))) (fun q hq => hq.elim (fun h => .inl (HSUB3.out q h)) (fun h => .inr h.1))
 ·go_upto_region 4 with (fail)
  refine start_ (n := 10) (S := (fun W => W.heap[gb]? = some (.cells #[.int .i64 k.op, .int .i64 k.at_, .slice Ak k.codes.length ck, .int .i64 k.lo, .int .i64 k.hi] 35 (0, 0)))) (ds := []) #[false, false, false, false, false, false, false, false, false, false] (by kernel_rfl) (by kernel_rfl) (by rfl) HXD.out (fun hS0 => ?_)
  refine pure_ (i := 0) (N := (some 15)) (v := ?_) (a' := ?_) #[true, false, false, false, false, false, false, false, false, false] rfl rfl (by kernel_rfl) (fun _ _ _ h => h) (Or.inl ⟨by rfl, ?_⟩) ?_ ?_
  rotate_left
  ·intro w'
   go_simp
   with_reducible rfl
  rotate_left
  ·simp only [Act.put, List.setIfInBounds_toArray, List.set_cons_zero, List.set_cons_succ]
   rfl
  refine pure_ (i := 1) (N := (some 16)) (v := ?_) (a' := ?_) #[true, true, false, false, false, false, false, false, false, false] rfl rfl (by kernel_rfl) (fun _ _ _ h => h) (Or.inl ⟨by rfl, ?_⟩) ?_ ?_
  rotate_left
  ·intro w'
   go_simp
   with_reducible rfl
  rotate_left
  ·simp only [Act.put, List.setIfInBounds_toArray, List.set_cons_zero, List.set_cons_succ]
   rfl
  refine take_ (i := 2) (N := (some 17)) (v := ?_) (a' := ?_) #[true, true, true, false, false, false, false, false, false, false] rfl rfl (by kernel_rfl) (fun _ _ _ h => h) (Or.inl ⟨by rfl, ?_⟩) hS0 ?_ ?_
  rotate_left
  ·intro w' s0
   have y3 := (blk_cell s0 3).trans rfl
   have y4 := (blk_cell s0 4).trans rfl
   go_simp
   with_reducible rfl
  rotate_left
  ·simp only [Act.put, List.setIfInBounds_toArray, List.set_cons_zero, List.set_cons_succ]
   rfl
  refine pure_ (i := 4) (N := (some 19)) (v := ?_) (a' := ?_) #[true, true, true, false, true, false, false, false, false, false] rfl rfl (by kernel_rfl) (fun _ _ _ h => h) (Or.inl ⟨by rfl, ?_⟩) ?_ ?_
  rotate_left
  ·intro w'
   go_simp
   with_reducible rfl
  rotate_left
  ·simp only [Act.put, List.setIfInBounds_toArray, List.set_cons_zero, List.set_cons_succ]
   rfl
  refine pure_ (i := 5) (N := (some 20)) (v := ?_) (a' := ?_) #[true, true, true, false, true, true, false, false, false, false] rfl rfl (by kernel_rfl) (fun _ _ _ h => h) (Or.inl ⟨by rfl, ?_⟩) ?_ ?_
  rotate_left
  ·intro w'
   go_simp
   with_reducible rfl
  rotate_left
  ·simp only [Act.put, List.setIfInBounds_toArray, List.set_cons_zero, List.set_cons_succ]
   rfl
  refine take_ (i := 6) (N := (some 21)) (v := ?_) (a' := ?_) #[true, true, true, false, true, true, true, false, false, false] rfl rfl (by kernel_rfl) (fun _ _ _ h => h) (Or.inl ⟨by rfl, ?_⟩) hS0 ?_ ?_
  rotate_left
  ·intro w' s0
   have y3 := (blk_cell s0 3).trans rfl
   have y4 := (blk_cell s0 4).trans rfl
   go_simp
   with_reducible rfl
  rotate_left
  ·simp only [Act.put, List.setIfInBounds_toArray, List.set_cons_zero, List.set_cons_succ]
   rfl
  clear hS0
  refine one_ (i := 3) (N := (some 18)) #[true, true, true, true, true, true, true, false, false, false] rfl rfl (by kernel_rfl) (by decide) (fun K hK => ?_)
  refine goes_ Try.func27 (by kernel_rfl) rfl #[ptr b, .agg #[.int .i64 k.lo, .int .i64 k.hi]] (by rfl) rfl rfl (by go_simp; done) ?_
  refine (join_pair HFD.out HBOD.out HFEW.out HN.out HBB.out k.lo k.hi).mono ?_
  rintro e w3 ⟨r, rfl, he3, ht⟩
  refine ⟨_, rfl, ?_⟩
  have HX3 : Aside0 (w3.heap[gb]? = some (.cells #[.int .i64 k.op, .int .i64 k.at_, .slice Ak k.codes.length ck, .int .i64 k.lo, .int .i64 k.hi] 35 (0, 0))) := ⟨blk_kept HXD.out he3.kept (fun hh => hh HGF.out)⟩
  have HE3 := Aside0.mk he3
  have HT := Aside0.mk ht
  clear he3 ht
  change K (Act.put _ (some 18) _) _
  refine hK.out _ _ HX3.out (fun hS0 => ?_)
  clear hK
  refine norm_ (a' := ?_) ?_ ?_
  rotate_left
  ·simp only [Act.put, List.setIfInBounds_toArray, List.set_cons_zero, List.set_cons_succ]
   rfl
  clear hS0
  refine one_ (i := 7) (N := (some 22)) #[true, true, true, true, true, true, true, true, false, false] rfl rfl (by kernel_rfl) (by decide) (fun K hK => ?_)
  refine goes_ Try.func46 (by kernel_rfl) rfl #[ptr c, .agg #[.int .i64 k.lo, .int .i64 k.hi]] (by rfl) rfl rfl (by go_simp; done) ?_
  refine (HT.out _ w3 (Below.refl _ _) rfl).mono ?_
  rintro e w4 ⟨rfl, hres, he4⟩
  refine ⟨_, rfl, ?_⟩
  have HX4 : Aside0 (w4.heap[gb]? = some (.cells #[.int .i64 k.op, .int .i64 k.at_, .slice Ak k.codes.length ck, .int .i64 k.lo, .int .i64 k.hi] 35 (0, 0))) := ⟨blk_kept HX3.out he4.kept (fun hh => hh HGF.out)⟩
  have HE4 := Aside0.mk he4
  have HRES := Aside0.mk hres
  clear he4 hres
  change K (Act.put _ (some 22) _) _
  refine hK.out _ _ HX4.out (fun hS0 => ?_)
  clear hK
  refine norm_ (a' := ?_) ?_ ?_
  rotate_left
  ·simp only [Act.put, List.setIfInBounds_toArray, List.set_cons_zero, List.set_cons_succ]
   rfl
  refine pure_ (i := 8) (N := (some 23)) (v := ?_) (a' := ?_) #[true, true, true, true, true, true, true, true, true, false] rfl rfl (by kernel_rfl) (fun _ _ _ h => h) (Or.inl ⟨by rfl, ?_⟩) ?_ ?_
  rotate_left
  ·intro w'
   go_simp
   with_reducible rfl
  rotate_left
  ·simp only [Act.put, List.setIfInBounds_toArray, List.set_cons_zero, List.set_cons_succ]
   rfl
  refine pure_ (i := 9) (N := (some 8)) (v := ?_) (a' := ?_) #[true, true, true, true, true, true, true, true, true, true] rfl rfl (by kernel_rfl) (fun _ _ _ h => h) (Or.inl ⟨by rfl, ?_⟩) ?_ ?_
  rotate_left
  ·intro w'
   go_simp
   with_reducible rfl
  rotate_left
  ·simp only [Act.put, List.setIfInBounds_toArray, List.set_cons_zero, List.set_cons_succ]
   rfl
  refine done_ (by kernel_rfl) ?_
  clear hS0 x0
  have HE24 : Aside0 (Eff w2 w4 (fun q => ¬ F2 q)) := ⟨(Eff.of_below HBD.out _).then_ (HE3.out.then_ HE4.out (fun q hq => .inl hq)) (fun q hq => .inl hq)⟩
  have HR4 : Aside0 (Kd.R (Kd.int .i64) 3 w4 0 (fun q => w.heap.size ≤ q ∧ q < w2.heap.size) (.slice Ag k.codes.length cg) k.codes) := ⟨Kd.R_kept HR22.out HE24.out.kept (fun q hq hn => hn (HGG.out q hq))⟩
  go_upto_region 15 with (fail)
  go_loopw [63] (fun v wr => ∃ j : Nat, v = .int .i64 j ∧ j ≤ k.codes.length ∧ Aside0 (∃ zs, zs.length = k.codes.length ∧ Kd.R (Kd.int .i64) 3 wr 0 (fun q => w.heap.size ≤ q ∧ q < w2.heap.size) (.slice Ag k.codes.length cg) zs) ∧ Aside0 (Kept w4 wr (fun q => w.heap.size ≤ q ∧ q < w2.heap.size)) ∧ Aside0 (Eff w4 wr (fun q => w.heap.size ≤ q ∧ q < w2.heap.size))) (fun v _ => k.codes.length - (intOf v).toNat)
  case atStart => exact ⟨0, rfl, Nat.zero_le _, ⟨_, rfl, HR4.out⟩, ⟨Kept.refl _ _⟩, ⟨Eff.refl _ _⟩⟩
  case round =>
   obtain ⟨j, rfl, hj, HZ, HKP, HEF⟩ := hrel
   by_cases hlj : j < k.codes.length
   ·obtain ⟨zs, hzl, hzr⟩ := HZ.out
    obtain ⟨g, cap, eg, -, hglt, cells, hgc⟩ := Kd.R_form hzr (by omega)
    rw [hzl] at eg
    injection eg with e1 e2 e3
    subst e1
    subst e3
    have hin : w.heap.size ≤ g ∧ g < w2.heap.size := hzr.1 g (by simp [Value.ownBlock])
    obtain ⟨z0, z1⟩ := Kd.R_celln (0 : Int) hzr (j : Int) (by omega) (by omega)
    have hp := (Kd.R_putg hzr (j : Int) (-7 : Int)).1
    rw [Int.toNat_natCast] at z0 z1 hp
    have etj : (j : Int).toNat = j := Int.toNat_natCast _
    have hjI : (j : Int) < (k.codes.length : Int) := by omega
    have hj0 : 0 ≤ (j : Int) := by omega
    have hj4 : (j : Int) ≤ 4 := by have := HK4.out; omega
    have HP := Aside0.mk hp
    have HZL := Aside0.mk hzl
    have HIN := Aside0.mk hin
    have HJ := Aside0.mk hlj
    clear hp hzl hin hzr hglt hgc hlj hj
    go_wp2
    exact ⟨⟨j + 1, by go_num, by have := HJ.out; omega, ⟨_, by rw [List.length_set]; exact HZL.out, HP.out⟩, ⟨HKP.out.setCell (.inl HIN.out) _⟩, ⟨HEF.out.then_ (Eff.of_grown (S := fun q => q = g) (grown_set _ g j _) (fun q e => (Option.some.inj e).symm)) (fun q e => .inl (by rw [e]; exact HIN.out))⟩⟩, by have := HJ.out; simp [intOf]; omega⟩
   ·obtain rfl : j = k.codes.length := by omega
    clear hlj
    go_wp2
    go_ret
    refine ⟨rfl, ?_, ?_⟩
    ·obtain ⟨L', J', hb, hf⟩ := HRES.out
     exact ⟨L', J', (hb.kept HEF.out.kept (fun q hq => .inl (HGG.out q hq))).mono HSUB.out, hf⟩
    ·exact (Eff.of_below HB2.out _).then_ ((HE24.out.mono (S2 := fun q => ¬ F2 q ∨ (w.heap.size ≤ q ∧ q < w2.heap.size)) (fun q hq => .inl hq)).then_ HEF.out (fun q hq => .inl (.inr hq))) (fun q hq => hq.elim (fun h => .inl (HSUB3.out q h)) (fun h => .inr h.1))
end Go.Proofs.Ytohhobcipfmkbaa.Cel
end
