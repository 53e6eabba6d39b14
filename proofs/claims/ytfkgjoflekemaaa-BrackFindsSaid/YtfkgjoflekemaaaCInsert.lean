/- slices.Clone, Insert of one value, and Delete of one, on whole numbers: the shelf's contracts, over rows that read as lists. -/
import Derived.Shelf.Lay
import Derived.Ground.Names2Prog
import Derived.Shelf.Spec.SlicesInsertGrow
import Derived.Shelf.Slices.Clone
import Derived.Shelf.Slices.Cells
import Derived.Test.YtfkgjoflekemaaaCBase
namespace Go.Proofs.Ytfkgjoflekemaaa.CInsert
open Go.RowKit Go.Proofs.YtfkgjoflekemaaaW.PrintWords Go.Proofs.YtfkgjoflekemaaaW.PrintMore Go.Proofs.Ytfkgjoflekemaaa.U Go.Proofs.Ytfkgjoflekemaaa.CBase
open Go.Shelf
set_option linter.unusedVariables false
set_option linter.unusedSimpArgs false
shelf_lay Lays2.n21 Nm2 21 at Try as li21
shelf_lay Lays2.n15 Nm2 15 at Try as lc15
shelf_lay Lays2.n23 Nm2 23 at Try as ld23
abbrev V (xs : List Int) : List Value := xs.map (Value.int .i64)
theorem SL_row {w : World} {g n c : Nat} {cur : Array Value} {e : TypeId} {xs : List Int} (h : w.heap[g]? = some (.cells cur e (0, 0))) (hn : n = xs.length) (hx : cur.toList.take n = V xs) (hm : xs.length ≤ 1000000) (hc : n ≤ c) : SL w (.slice (some ⟨g, 0, none⟩) n c) xs := by
  subst hn
  refine ⟨_, _, rfl, hc, ?_⟩
  refine Kd.C_of_reads (d := (0 : Int)) (h1 := fun _ => rfl) ⟨rfl, by omega, fun _ => ⟨_, rfl, fun j hj => ?_⟩⟩
  rw [add_plain, blk_cell h j]
  have e : (cur.toList.take xs.length)[j]? = cur[j]? := by rw [List.getElem?_take, if_pos hj]; simp
  rw [← e, hx]
  simp [List.getElem?_eq_getElem hj, List.getD_eq_getElem?_getD]
theorem spot_none {w : World} {a : Addr} {v : Value} (h : w.cell? a = some v) : a.spot = none := by
  unfold World.cell? at h
  split at h
  · by_cases hs : a.spot.isSome
    · rw [if_pos hs] at h; cases h
    · simpa using hs
  · cases h
theorem SL.cells {w : World} {A : Option Addr} {c : Nat} {xs : List Int} (h : SL w (.slice A xs.length c) xs) (h0 : 0 < xs.length) : ∃ b off, A = some ⟨b, off, none⟩ ∧ ∀ j, j < xs.length → w.cell? ⟨b, off + j, none⟩ = some (.int .i64 (xs.getD j 0)) := by
  obtain ⟨A', c', e, hl, hC⟩ := h
  injection e with e1 e2 e3
  subst e1
  obtain ⟨ad, rfl, h1⟩ := Kd.at_int hC 0 (by omega) (by omega)
  have hs := spot_none h1
  obtain ⟨b, off, sp⟩ := ad
  simp [Addr.add] at hs
  subst hs
  refine ⟨b, off, rfl, fun j hj => ?_⟩
  obtain ⟨ad, e, h2⟩ := Kd.at_int hC (j : Int) (by omega) (by omega)
  cases e
  rw [Int.toNat_natCast, rd_nat, Addr.add_lit] at h2
  exact h2
theorem reps_V (w : World) (base : Nat) (ok : Nat → Prop) (xs : List Int) : Reps ((Kd.int .i64).M w base ok) 1 xs (V xs) := by
  refine ⟨by simp, fun j p hj => ?_⟩
  show (V xs |>.drop (j * 1)).take 1 = [Value.int .i64 p]
  obtain ⟨hl, rfl⟩ := List.getElem?_eq_some_iff.1 hj
  rw [Nat.mul_one, List.drop_eq_getElem_cons (by simpa using hl)]
  simp
theorem clone_c {v : Value} {xs : List Int} {w : World} (h : SL w v xs) (hm : xs.length ≤ 1000000) : Calls Try.prog 49 #[v] w fun e w' => ∃ u, e = .returned u ∧ Kd.R (Kd.int .i64) 3 w' w.heap.size (fun _ => True) u xs ∧ Below w.heap.size w w' := by
  obtain ⟨A, c, rfl, hc, hC⟩ := h
  by_cases h0 : 0 < xs.length
  · obtain ⟨b, off, rfl, hcell⟩ := SL.cells ⟨A, c, rfl, hc, hC⟩ h0
    refine (Any.slices_Clone_int lc15 b off xs.length c xs w (Nat.le_refl _) (by omega) hcell).mono ?_
    rintro e w' ⟨u, rfl, hown, _, hb⟩
    rw [List.take_length] at hown
    exact ⟨u, rfl, ⟨fun _ _ => trivial, V xs, hown, reps_V _ _ _ _⟩, hb⟩
  · have e : xs = [] := List.eq_nil_of_length_eq_zero (by omega)
    subst e
    cases A with
    | none => exact (Any.slices_Clone_int_nil lc15 0 c w).mono fun e w' ⟨he, hw⟩ => ⟨_, he, Kd.R_nil _ _ _ _ _, by rw [hw]; exact Below.refl _ _⟩
    | some a =>
      refine (Any.slices_Clone_int_zero lc15 a c w).mono ?_
      rintro e w' ⟨u, rfl, hown, _, hb⟩
      exact ⟨u, rfl, ⟨fun _ _ => trivial, [], hown, Reps.none _ _⟩, hb⟩
theorem reps_eq {w : World} {base : Nat} {ok : Nat → Prop} {xs : List Int} {inner : List Value} (h : Reps ((Kd.int .i64).M w base ok) 1 xs inner) : inner = V xs := by
  obtain ⟨h1, h2⟩ := h
  apply List.ext_getElem?
  intro j
  by_cases hj : j < xs.length
  · have h3 : (inner.drop (j * 1)).take 1 = [Value.int .i64 xs[j]] := h2 j _ (List.getElem?_eq_getElem hj)
    rw [Nat.mul_one, List.drop_eq_getElem_cons (by omega), List.take_succ_cons, List.take_zero] at h3
    injection h3 with h4
    rw [List.getElem?_eq_getElem (by omega), h4]
    simp [hj]
  · rw [List.getElem?_eq_none (by omega), List.getElem?_eq_none (by simp; omega)]
theorem R_row {w : World} {base : Nat} {ok : Nat → Prop} {v : Value} {xs : List Int} (h : Kd.R (Kd.int .i64) 3 w base ok v xs) : (v = .slice none 0 0 ∧ xs = []) ∨
    ∃ g cap cur, v = .slice (some ⟨g, 0, none⟩) xs.length cap ∧ base ≤ g ∧ w.heap[g]? = some (.cells cur 3 (0, 0)) ∧ xs.length ≤ cap ∧ cap ≤ maxLen ∧ cur.size = cap ∧ cur.toList.take xs.length = V xs := by
  obtain ⟨_, inner, ⟨hl, ho⟩, hr⟩ := h
  have e := reps_eq hr
  subst e
  rcases ho with ⟨rfl, h0⟩ | ⟨g, cap, cur, rfl, h1, h2, h3, h4, h5, h6⟩
  · exact .inl ⟨rfl, List.eq_nil_of_length_eq_zero h0⟩
  · exact .inr ⟨g, cap, cur, rfl, h1, h2, h3, h4, by rw [h5]; exact Nat.mul_one _, by rw [show xs.length * (Kd.int .i64).sz = xs.length from Nat.mul_one _] at h6; exact h6⟩
theorem below_cells {B g : Nat} {a w : World} (h : Below B a w) (hg : B ≤ g) (o : Nat) (vs : List Value) : Below B a (w.setCells g o vs) := by
  obtain ⟨h1, h2, h3, h4⟩ := setCells_same g vs o w
  exact ⟨h1.trans h.os, h2.trans h.tape, h3.trans h.output, by rw [h4]; exact h.size, fun k hk => by rw [setCells_far vs o k (by omega)]; exact h.block k hk⟩
theorem V_one (xs : List Int) : ∀ v ∈ V xs, v.oneCell' = true := by
  intro v hv
  obtain ⟨x, _, rfl⟩ := List.mem_map.1 hv
  rfl
theorem cell_V {w : World} {g : Nat} {cur : Array Value} {e : TypeId} {xs : List Int} (h : w.heap[g]? = some (.cells cur e (0, 0))) (hx : cur.toList.take xs.length = V xs) (j : Nat) (v : Value) (hj : (V xs)[j]? = some v) : w.cell? ⟨g, 0 + j, none⟩ = some v := by
  rw [Nat.zero_add, blk_cell h j]
  have hl : j < xs.length := by simpa using (List.getElem?_eq_some_iff.1 hj).1
  have e : (cur.toList.take xs.length)[j]? = cur[j]? := by rw [List.getElem?_take, if_pos hl]; simp
  rw [← e, hx]
  exact hj
/-- what the cells hold behind the two copies -/
theorem laid (xs : List Int) (k : Nat) (hk : k ≤ xs.length) (x : Int) (l l1 l2 : List Value) (hl : l.take k = (V xs).take k) (hn : k ≤ l.length)
    (h1 : l1 = l.take (k + 1) ++ (V xs).drop k ++ l.drop (k + 1 + ((V xs).drop k).length)) (h2 : l2 = l1.take k ++ [Value.int .i64 x] ++ l1.drop (k + 1)) (hs : k + 1 ≤ l.length) : l2.take (xs.length + 1) = V (xs.take k ++ x :: xs.drop k) := by
  have e1 : l1.take k = (V xs).take k := by
    rw [h1, List.append_assoc, List.take_append_of_le_length (by rw [List.length_take]; omega), List.take_take, show min k (k + 1) = k by omega, hl]
  have e2 : l1.drop (k + 1) = (V xs).drop k ++ l.drop (k + 1 + ((V xs).drop k).length) := by
    rw [h1, List.append_assoc, List.drop_append, List.drop_of_length_le (by rw [List.length_take]; omega)]
    rw [List.length_take, show k + 1 - min (k + 1) l.length = 0 by omega]
    rfl
  rw [h2, e1, e2]
  have e3 : (V xs).take k ++ [Value.int .i64 x] ++ ((V xs).drop k ++ l.drop (k + 1 + ((V xs).drop k).length)) = V (xs.take k ++ x :: xs.drop k) ++ l.drop (k + 1 + ((V xs).drop k).length) := by
    simp [V]
  rw [e3, List.take_append_of_le_length (by simp; omega), List.take_of_length_le (by simp; omega)]
theorem laid2 (xs : List Int) (k : Nat) (hk : k ≤ xs.length) (x : Int) (l l1 l2 : List Value) (hl : l.take k = (V xs).take k) (hs : k + 1 ≤ l.length)
    (h1 : l1 = l.take k ++ [Value.int .i64 x] ++ l.drop (k + 1)) (h2 : l2 = l1.take (k + 1) ++ (V xs).drop k ++ l1.drop (k + 1 + ((V xs).drop k).length)) : l2.take (xs.length + 1) = V (xs.take k ++ x :: xs.drop k) := by
  have e1 : l1.take (k + 1) = (V xs).take k ++ [Value.int .i64 x] := by
    rw [h1, List.take_append_of_le_length (by simp; omega), hl, List.take_of_length_le (by simp; omega)]
  rw [h2, e1]
  generalize l1.drop (k + 1 + ((V xs).drop k).length) = rest
  have e3 : (V xs).take k ++ [Value.int .i64 x] ++ (V xs).drop k ++ rest = V (xs.take k ++ x :: xs.drop k) ++ rest := by
    simp [V]
  rw [e3, List.take_append_of_le_length (by simp; omega), List.take_of_length_le (by simp; omega)]
theorem insert_c {w0 W : World} {base : Nat} {v : Value} {xs : List Int} (hR : Kd.R (Kd.int .i64) 3 W base (fun _ => True) v xs) (hB : Below base w0 W) (hbase : base ≤ W.heap.size) (k : Nat) (hk : k ≤ xs.length) (x : Int) (hm : xs.length ≤ 900000) :
    Calls Try.prog 48 #[v, .int .i64 (k : Int), .slice (some ⟨W.heap.size, 0, none⟩) 1 1] (W.alloc (.cells #[.int .i64 x] 3)) fun e w' => ∃ u, e = .returned u ∧ SL w' u (xs.take k ++ x :: xs.drop k) ∧ Below base w0 w' := by
  have hB1 : Below base w0 (W.alloc (.cells #[.int .i64 x] 3)) := hB.alloc hbase _
  have hnew : (W.alloc (.cells #[.int .i64 x] 3)).heap[W.heap.size]? = some (.cells #[.int .i64 x] 3 (0, 0)) := blk_new _ _
  have hsz : (W.alloc (.cells #[.int .i64 x] 3)).heap.size = W.heap.size + 1 := World.size_alloc _ _
  have hold : ∀ g, g < W.heap.size → (W.alloc (.cells #[.int .i64 x] 3)).heap[g]? = W.heap[g]? := fun g hg => (below_alloc (Below.refl W.heap.size W) _).block g hg
  have hvs : ∀ j v, ([Value.int .i64 x] : List Value)[j]? = some v → (W.alloc (.cells #[.int .i64 x] 3)).cell? ⟨W.heap.size, 0 + j, none⟩ = some v := fun j v hj => by
    rw [Nat.zero_add, blk_cell hnew j]; simpa using hj
  have h1v : ∀ v ∈ ([Value.int .i64 x] : List Value), v.oneCell' = true := by intro v hv; simp at hv; subst hv; rfl
  have hlen : (xs.take k ++ x :: xs.drop k).length = xs.length + 1 := by simp; omega
  generalize hW1 : W.alloc (.cells #[.int .i64 x] 3) = W1 at *
  have grow : ∀ base' c, (base' = none → xs.length = 0) → (∀ a, base' = some a → ∀ j v, (V xs)[j]? = some v → W1.cell? (a.add j) = some v) → xs.length ≤ c → c < xs.length + 1 → k = xs.length →
      Calls Try.prog 48 #[.slice base' xs.length c, .int .i64 (k : Int), .slice (some ⟨W.heap.size, 0, none⟩) 1 1] W1 fun e w' => ∃ u, e = .returned u ∧ SL w' u (xs.take k ++ x :: xs.drop k) ∧ Below base w0 w' := by
    intro base' c hnil hcs h1 h2 e
    subst e
    refine (Any2.slices_Insert_int_end_grow li21 base' xs.length c W.heap.size 0 1 1 (V xs) [.int .i64 x] W1 Nat.one_pos h1 h2 (by omega) (by simp) rfl hnil hcs hvs h1v).mono ?_
    rintro e w' ⟨rfl, rfl⟩
    refine ⟨_, rfl, ?_, (hB1.drew).alloc (by show base ≤ W1.heap.size; omega) _⟩
    refine SL_row (blk_new _ _) hlen.symm ?_ (by omega) (grownCap_ge _ _ _ _)
    generalize Builtin.zeroCells _ _ = z
    rw [Array.toList_append, List.take_append_of_le_length (by simp), List.take_of_length_le (by simp)]
    simp [V]
  rcases R_row hR with ⟨rfl, rfl⟩ | ⟨g, cap, cur, rfl, hg, hcur, hcap, hcm, hcs, hct⟩
  · exact grow none 0 (fun _ => rfl) (fun a h => nomatch h) (Nat.le_refl 0) (by simp) (by simpa using hk)
  · have hgl : g < W.heap.size := (Array.getElem?_eq_some_iff.1 hcur).1
    have hcur1 : W1.heap[g]? = some (.cells cur 3 (0, 0)) := (hold g hgl).trans hcur
    have hcell := cell_V hcur1 hct
    by_cases hroom : cap < xs.length + 1
    · by_cases hkn : k = xs.length
      · exact grow (some ⟨g, 0, none⟩) cap (fun h => nomatch h) (fun a h j v hj => by injection h with h; subst h; rw [Addr.add_lit]; exact hcell j v hj) hcap hroom hkn
      · refine (Any2.slices_Insert_int_grow li21 g 0 xs.length cap k W.heap.size 0 1 1 (V xs) [.int .i64 x] W1 (by omega) Nat.one_pos hcap hroom (by omega) (by simp) rfl hcell hvs (V_one xs) h1v).mono ?_
        rintro e w' ⟨rfl, rfl⟩
        generalize hz2 : Builtin.zeroCells (Value.int .i64 0).cells (grownCap _ _ _ _ - _) = z2
        have hcap2 := grownCap_ge W1 (xs.length + 1) cap (li21_ren.t 3)
        generalize grownCap W1 (xs.length + 1) cap (li21_ren.t 3) = G at hcap2 ⊢
        have hz1 : (Builtin.zeroCells (Value.int .i64 0).cells (xs.length + 1 - k)).size = xs.length + 1 - k := by simp [Builtin.zeroCells, Value.cells]
        generalize Builtin.zeroCells (Value.int .i64 0).cells (xs.length + 1 - k) = z1 at hz1 ⊢
        generalize hrow : ((V xs).take k).toArray ++ z1 ++ z2 = row
        have hrl : xs.length + 1 ≤ row.size := by rw [← hrow]; simp; omega
        have hrt : row.toList.take k = (V xs).take k := by rw [← hrow]; simp; rw [List.take_append_of_le_length (by simp; omega), List.take_take, Nat.min_self]
        have hb0 : (W1.alloc (.cells row (li21_ren.t 3))).drew.heap[W1.heap.size]? = some (.cells row (li21_ren.t 3) (0, 0)) := blk_new _ _
        have hbl : Below base w0 (W1.alloc (.cells row (li21_ren.t 3))).drew := (hB1.alloc (by omega) _).drew
        generalize (W1.alloc (.cells row (li21_ren.t 3))).drew = W2 at hb0 hbl ⊢
        obtain ⟨c1, hc1, hs1, ht1⟩ := setCells_row [Value.int .i64 x] k W2 row hb0 (by simp; omega)
        have hbl2 := below_cells hbl (show base ≤ W1.heap.size by omega) k [Value.int .i64 x]
        obtain ⟨c2, hc2, hs2, ht2⟩ := setCells_row ((V xs).drop k) (k + 1) (W2.setCells W1.heap.size k [Value.int .i64 x]).drew c1 hc1 (by simp; omega)
        refine ⟨_, rfl, ?_, below_cells hbl2.drew (show base ≤ W1.heap.size by omega) _ _⟩
        refine SL_row hc2 hlen.symm ?_ (by omega) hcap2
        exact laid2 xs k hk x row.toList c1.toList c2.toList hrt (by rw [Array.length_toList]; omega) ht1 ht2
    · by_cases hkn : k = xs.length
      · subst hkn
        have hsome : ∀ j, j < cap → ∃ u, W1.cell? ⟨g, j, none⟩ = some u := fun j hj => ⟨cur[j], by rw [blk_cell hcur1 j, Array.getElem?_eq_getElem (by omega)]⟩
        have hfz : ∀ j, W1.frozen? ⟨g, j, none⟩ = false := fun j => by simp [World.frozen?, hcur1]
        refine (Any2.slices_Insert_int_end_room li21 g 0 xs.length cap W.heap.size 0 1 1 [.int .i64 x] W1 Nat.one_pos (by omega) (by unfold maxLen at hcm; omega) rfl (fun j hj => by obtain ⟨u, hu⟩ := hsome (0 + xs.length + j) (by omega); rw [hu]; rfl) (fun j hj => hfz _) hvs h1v).mono ?_
        rintro e w' ⟨rfl, rfl⟩
        obtain ⟨c1, hc1, hs1, ht1⟩ := setCells_row [Value.int .i64 x] (0 + xs.length) W1 cur hcur1 (by simp; omega)
        refine ⟨_, rfl, ?_, below_cells hB1 hg _ _⟩
        refine SL_row hc1 hlen.symm ?_ (by omega) (by omega)
        rw [ht1, Nat.zero_add, hct, List.take_append_of_le_length (by simp), List.take_of_length_le (by simp)]
        simp [V]
      · have hsome : ∀ j, j < cap → ∃ u, W1.cell? ⟨g, j, none⟩ = some u := fun j hj => ⟨cur[j], by rw [blk_cell hcur1 j, Array.getElem?_eq_getElem (by omega)]⟩
        have hfz : ∀ j, W1.frozen? ⟨g, j, none⟩ = false := fun j => by simp [World.frozen?, hcur1]
        have hfz2 : ∀ j, W1.frozen? ⟨W.heap.size, j, none⟩ = false := fun j => by simp [World.frozen?, hnew]
        refine (Any2.slices_Insert_int_shift li21 g 0 xs.length cap k W.heap.size 0 1 1 (V xs) [.int .i64 x] W1 (by omega) Nat.one_pos (by omega) (by unfold maxLen at hcm; omega) (by omega) (by simp) rfl hcell (fun j hj => by obtain ⟨u, hu⟩ := hsome (0 + j) (by omega); rw [hu]; rfl) (fun j hj => hfz _) hvs (V_one xs) h1v 3 3 1 cap (by simp [World.shape?, hnew]) (by simp [World.shape?, hcur1, hcs]) (by omega) (hfz2 _) (hfz2 _)).mono ?_
        rintro e w' ⟨rfl, rfl⟩
        have hd : W1.drew.heap[g]? = some (.cells cur 3 (0, 0)) := hcur1
        obtain ⟨c1, hc1, hs1, ht1⟩ := setCells_row ((V xs).drop k) (0 + (k + 1)) W1.drew cur hd (by simp; omega)
        obtain ⟨c2, hc2, hs2, ht2⟩ := setCells_row [Value.int .i64 x] (0 + k) _ c1 hc1 (by simp; omega)
        refine ⟨_, rfl, ?_, below_cells (below_cells hB1.drew hg _ _) hg _ _⟩
        refine SL_row hc2 hlen.symm ?_ (by omega) (by omega)
        rw [Nat.zero_add] at ht1 ht2
        refine laid xs k hk x cur.toList c1.toList c2.toList ?_ (by rw [Array.length_toList]; omega) ht1 ht2 (by rw [Array.length_toList]; omega)
        rw [← hct, List.take_take, show min k xs.length = k by omega]
theorem delete_c {w0 w : World} {base : Nat} {ok : Nat → Prop} {v : Value} {xs : List Int} (hR : Kd.R (Kd.int .i64) 3 w base ok v xs) (hB : Below base w0 w) (k : Nat) (hk : k < xs.length) (hm : xs.length ≤ 900000) :
    Calls Try.prog 50 #[v, .int .i64 (k : Int), .int .i64 ((k : Int) + 1)] w fun e w' => ∃ u, e = .returned u ∧ SL w' u (xs.take k ++ xs.drop (k + 1)) ∧ Below base w0 w' := by
  rcases R_row hR with ⟨rfl, rfl⟩ | ⟨g, cap, cur, rfl, hg, hcur, hcap, hcm, hcs, hct⟩
  · simp at hk
  · refine (Any.slices_Delete_int_cells ld23 g 0 xs.length cap k (k + 1) xs w (Nat.le_refl _) hcap (by unfold maxLen at hcm; omega) (by omega) (by omega) (fun j hj => cell_V hcur hct j _ (by simp [hj, List.getD_eq_getElem?_getD])) (fun j hj => by simp [World.frozen?, hcur])).mono ?_
    rintro e w' ⟨rfl, q, rfl⟩
    rw [List.take_length]
    have hd : (w.drewN q).heap[g]? = some (.cells cur 3 (0, 0)) := hcur
    obtain ⟨c1, hc1, hs1, ht1⟩ := setCells_row (V (xs.take k ++ xs.drop (k + 1) ++ List.replicate (k + 1 - k) 0)) 0 (w.drewN q) cur hd (by simp; omega)
    refine ⟨_, rfl, ?_, below_cells (pw_below_drewN hB q) hg _ _⟩
    refine SL_row hc1 (by simp; omega) ?_ (by simp; omega) (by omega)
    rw [ht1, show xs.length - (k + 1 - k) = xs.length - 1 by omega, show k + 1 - k = 1 by omega, List.take_zero, List.nil_append]
    generalize cur.toList.drop _ = rest
    have e : V (xs.take k ++ xs.drop (k + 1) ++ List.replicate 1 0) ++ rest = V (xs.take k ++ xs.drop (k + 1)) ++ (V (List.replicate 1 0) ++ rest) := by simp [V]
    rw [e, List.take_append_of_le_length (by simp; omega), List.take_of_length_le (by simp; omega)]
end Go.Proofs.Ytfkgjoflekemaaa.CInsert
