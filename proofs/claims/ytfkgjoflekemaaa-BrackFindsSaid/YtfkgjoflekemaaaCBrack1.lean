/- pairs.find by binary search, pairs.Canon, pairs.Bracket: walked. -/
import Derived.Test.YtfkgjoflekemaaaUBrack
import Derived.RegionTactic
import Derived.Shelf.SlSorted.Search
import Derived.Shelf.Lay
import Derived.Ground.SlsoProg

namespace Go.Proofs.Ytfkgjoflekemaaa.CBrack
open Go.RowKit Go.Proofs.YtfkgjoflekemaaaW.PrintWords Go.Proofs.YtfkgjoflekemaaaW.PrintMore Go.Proofs.Ytfkgjoflekemaaa.U Go.Proofs.Ytfkgjoflekemaaa.PBrackFinds Go.Proofs.Ytfkgjoflekemaaa.UBrack
open Go.Shelf
set_option linter.unusedVariables false
set_option linter.unusedSimpArgs false
shelf_lay SlLaysO.n16 Slso 16 at Try as ls16
set_option maxHeartbeats 1000000 in
theorem closure_c (ba bx : Nat) (ad : Addr) (n c : Nat) (x y : Int) (i : Nat) (W : World) (hi : i < n)
    (ha : W.cell? ⟨ba, 0, none⟩ = some (.slice (some ad) n c)) (hx : W.cell? ⟨bx, 0, none⟩ = some (.int .i64 x)) (hc : W.cell? (ad.add (i * 2)) = some (.int .i64 y)) :
    Calls Try.prog 155 (#[.int .i64 i] ++ #[.pointer (some ⟨ba, 0, none⟩), .pointer (some ⟨bx, 0, none⟩)]) W fun e w' => e = .returned (.bool (decide (x ≤ y))) ∧ ∃ q, w' = W.drewN q := by
  have hiz : (i : Int) < (n : Int) := by omega
  go_enter Try.func155, Try.ntmps155
  go_wp2
  go_region
  all_goals go_wp2
  all_goals go_ret
  all_goals exact ⟨by first | rfl | simp, 1, rfl⟩
theorem below_cells {B g : Nat} {a w : World} (h : Below B a w) (hg : B ≤ g) (o : Nat) (vs : List Value) : Below B a (w.setCells g o vs) := by
  obtain ⟨h1, h2, h3, h4⟩ := setCells_same g vs o w
  exact ⟨h1.trans h.os, h2.trans h.tape, h3.trans h.output, by rw [h4]; exact h.size, fun k hk => by rw [setCells_far vs o k (by omega)]; exact h.block k hk⟩
theorem grow_below {w : World} (m : Nat) (os : Array Obj) : Below w.heap.size w (Go.Sort.grow (w.drewN m) os) := below_grown_sl w.heap.size w m os (Nat.le_refl _)
theorem rd58_lt {l : List S58} (hs : l.Pairwise (fun p q => p.f0 < q.f0)) (a b : Nat) (hab : a ≤ b) (hb : b < l.length) : (rd_T58 l a).f0 ≤ (rd_T58 l b).f0 := by
  rw [rd58_get (show a < l.length by omega), rd58_get hb]
  by_cases e : a = b
  · subst e; exact Int.le_refl _
  · exact Int.le_of_lt (List.pairwise_iff_getElem.1 hs a b (by omega) hb (by omega))
/-- the place at which a sorted list holds what is looked for -/
theorem count_find (x : Int) : ∀ (l : List S58), l.Pairwise (fun p q => p.f0 < q.f0) → ∃ k : Nat, k ≤ l.length ∧ (List.range l.length).countP (fun i : Nat => !decide (x ≤ (rd_T58 l i).f0)) = k ∧
    ((k < l.length ∧ (rd_T58 l k).f0 = x ∧ l.find? (fun p => p.f0 == x) = some (rd_T58 l k)) ∨ ((k = l.length ∨ k < l.length ∧ (rd_T58 l k).f0 ≠ x) ∧ l.find? (fun p => p.f0 == x) = none)) := by
  intro l
  induction l with
  | nil => intro _; exact ⟨0, Nat.le_refl _, rfl, .inr ⟨.inl rfl, rfl⟩⟩
  | cons p l ih =>
    intro h
    rw [List.pairwise_cons] at h
    obtain ⟨k, hk, hc, hh⟩ := ih h.2
    have hcount : (List.range (p :: l).length).countP (fun i : Nat => !decide (x ≤ (rd_T58 (p :: l) i).f0)) = (if x ≤ p.f0 then 0 else 1) + k := by
      rw [List.length_cons, List.range_succ_eq_map, List.countP_cons, List.countP_map, ← hc]
      have e0 : rd_T58 (p :: l) ((0 : Nat) : Int) = p := rfl
      have es : ((fun i : Nat => !decide (x ≤ (rd_T58 (p :: l) i).f0)) ∘ Nat.succ) = fun i : Nat => !decide (x ≤ (rd_T58 l i).f0) := by
        funext i
        simp only [Function.comp_apply]
        rw [show rd_T58 (p :: l) ((Nat.succ i : Nat) : Int) = rd_T58 l (i : Int) by rw [rd58_nat, rd58_nat]; simp]
      rw [es, e0]
      by_cases hx : x ≤ p.f0
      · simp [hx]
      · simp [hx]; omega
    rw [hcount]
    by_cases hx : x ≤ p.f0
    · have hz : k = 0 := by
        rw [← hc, List.countP_eq_zero]
        intro i hi
        have hi := List.mem_range.1 hi
        have := h.1 _ (List.getElem_mem hi)
        rw [rd58_get hi]
        simp only [Bool.not_eq_true', Bool.not_eq_false, decide_eq_true_eq, Bool.not_eq_true]
        simp
        omega
      subst hz
      rw [if_pos hx]
      refine ⟨0, Nat.zero_le _, rfl, ?_⟩
      by_cases e : p.f0 = x
      · exact .inl ⟨by simp, e, by rw [List.find?_cons, show (p.f0 == x) = true by simpa using e]; rfl⟩
      · refine .inr ⟨.inr ⟨by simp, e⟩, ?_⟩
        rw [List.find?_eq_none]
        intro q hq
        rcases List.mem_cons.1 hq with rfl | hq
        · simpa using e
        · have := h.1 q hq; simp; omega
    · rw [if_neg hx]
      have hs : rd_T58 (p :: l) ((1 + k : Nat) : Int) = rd_T58 l (k : Int) := by rw [rd58_nat, rd58_nat, Nat.add_comm]; simp
      have hf : (p :: l).find? (fun p => p.f0 == x) = l.find? (fun p => p.f0 == x) := by rw [List.find?_cons, show (p.f0 == x) = false by simp; omega]
      refine ⟨1 + k, by simp; omega, rfl, ?_⟩
      rw [hs, hf]
      rcases hh with ⟨h1, h2, h3⟩ | ⟨h1, h3⟩
      · exact .inl ⟨by simp; omega, h2, h3⟩
      · refine .inr ⟨?_, h3⟩
        rcases h1 with h1 | ⟨h1, h2⟩
        · exact .inl (by simp; omega)
        · exact .inr ⟨by simp; omega, h2⟩
theorem search_c {w : World} {A : Option Addr} {c : Nat} {l : List S58} (x : Int) (ba bx : Nat) (hC : Kd.C k58 w A l.length l) (hm : l.length ≤ 1000000) (hs : l.Pairwise (fun p q => p.f0 < q.f0))
    (ha : w.cell? ⟨ba, 0, none⟩ = some (.slice A l.length c)) (hx : w.cell? ⟨bx, 0, none⟩ = some (.int .i64 x)) :
    Calls Try.prog 154 #[.int .i64 l.length, .func (.func 155) #[] #[.pointer (some ⟨ba, 0, none⟩), .pointer (some ⟨bx, 0, none⟩)]] w fun e w' => e = .returned (.int .i64 ((List.range l.length).countP (fun i : Nat => !decide (x ≤ (rd_T58 l i).f0)) : Nat)) ∧ Below w.heap.size w w' := by
  refine (Any.sort_Search ls16 155 #[.pointer (some ⟨ba, 0, none⟩), .pointer (some ⟨bx, 0, none⟩)] l.length (fun i => decide (x ≤ (rd_T58 l i).f0)) w (enters_of Try.func155 (by kernel_rfl) rfl) (by omega) (fun m os i hi => ?_) (fun a b hab hb h => ?_)).mono ?_
  · obtain ⟨ad, rfl, h1, h2⟩ := at_T58 hC (i : Int) (by omega) (by omega)
    rw [Int.toNat_natCast] at h1
    exact (closure_c ba bx ad l.length c x _ i _ hi (cell_grown (World.block_lt_of_cell? w _ ha) ha m os) (cell_grown (World.block_lt_of_cell? w _ hx) hx m os) (cell_grown (World.block_lt_of_cell? w _ h1) h1 m os)).mono fun e w' ⟨he, q, hq⟩ => ⟨he, q, #[], by rw [hq, Go.Sort.grow_empty]⟩
  · have := rd58_lt hs a b hab hb
    simp only [decide_eq_true_eq] at h ⊢
    omega
  · rintro e w' ⟨rfl, q, os, rfl⟩
    exact ⟨rfl, grow_below q os⟩
def found3 (l : List S58) (x : Int) : Int × Int × Bool := match l.find? (fun p => p.f0 == x) with | some p => (p.f0, p.f1, true) | none => (0, 0, false)
set_option maxHeartbeats 2000000 in
theorem find_c {w : World} {A : Option Addr} {c : Nat} {l : List S58} (x : Int) (hC : SLk k58 w (.slice A l.length c) l) (hm : l.length ≤ 1000000) (hs : l.Pairwise (fun p q => p.f0 < q.f0)) :
    Calls Try.prog 134 #[.slice A l.length c, .int .i64 x] w fun e w' => e = .returned (.tuple #[.agg #[.int .i64 (found3 l x).1, .int .i64 (found3 l x).2.1], .bool (found3 l x).2.2]) ∧ Below w.heap.size w w' := by
  have H := Aside0.mk hC
  have HS := Aside0.mk hs
  have HM := Aside0.mk hm
  clear hC hs hm
  go_enter Try.func134, Try.ntmps134
  go_wp2_with fail
  generalize hWA : World.alloc _ _ = W
  have HB : Aside0 (Below w.heap.size w W) := ⟨by rw [← hWA]; exact below_alloc (below_alloc (below_alloc (Below.refl _ _) _) _) _⟩
  have HSL := Aside0.mk (SLk.below H.out HB.out)
  have hsz : W.heap.size = w.heap.size + 1 + 1 + 1 := by rw [← hWA]; simp
  have c0 : W.cell? ⟨w.heap.size, 0, none⟩ = some (.slice A l.length c) := by rw [← hWA]; simp [go_sem]
  have c1 : W.cell? ⟨w.heap.size + 1, 0, none⟩ = some (.int .i64 x) := by rw [← hWA]; simp [go_sem]
  have c2 : W.heap[w.heap.size + 1 + 1]? = some (.cells #[.int .i64 0, .int .i64 0] 58 (0, 0)) := by
    have := blk_new ((w.alloc (.cells #[.slice A l.length c] 129)).alloc (.cells #[.int .i64 x] 3)) (.cells #[.int .i64 0, .int .i64 0] 58)
    simp only [World.size_alloc] at this
    rw [← hWA]
    exact this
  have HC : Aside0 (Kd.C k58 W A l.length l) := ⟨by
    obtain ⟨A', c', e, _, h⟩ := HSL.out
    injection e with e1 e2 e3
    subst e1
    exact h⟩
  refine (search_c x _ _ HC.out HM.out HS.out c0 c1).mono ?_
  obtain ⟨k, hk, hc, hh⟩ := count_find x l HS.out
  rw [hc]
  rintro e w1 ⟨rfl, hb⟩
  have d0 := (hb.cell (World.block_lt_of_cell? W _ c0)).trans c0
  have d1 := (hb.cell (World.block_lt_of_cell? W _ c1)).trans c1
  have d2 := (hb.block _ (blk_lt c2)).trans c2
  have HB1 := Aside0.mk (below_step HB.out hb)
  have HC1 := Aside0.mk (Kd.C_below HC.out hb)
  clear hb c0 c1 c2 HB HSL HC hc hsz hWA
  have b0 : w1.cell? ⟨w.heap.size + 1 + 1, 0, none⟩ = some (.int .i64 0) := (blk_cell d2 0).trans rfl
  have f0 : w1.frozen? ⟨w.heap.size + 1 + 1, 0, none⟩ = false := blk_frozen d2 0
  have s1 : ∀ u, (w1.setCell ⟨w.heap.size + 1 + 1, 0, none⟩ u).cell? ⟨w.heap.size + 1 + 1, 1, none⟩ = some (.int .i64 0) := fun u => (blk_cell (blk_set d2 0 u) 1).trans rfl
  have s2 : ∀ u, (w1.setCell ⟨w.heap.size + 1 + 1, 0, none⟩ u).frozen? ⟨w.heap.size + 1 + 1, 1, none⟩ = false := fun u => blk_frozen (blk_set d2 0 u) 1
  have r0 : ∀ u v, ((w1.setCell ⟨w.heap.size + 1 + 1, 0, none⟩ u).setCell ⟨w.heap.size + 1 + 1, 1, none⟩ v).cell? ⟨w.heap.size + 1 + 1, 0, none⟩ = some u := fun u v => (blk_cell (blk_set (blk_set d2 0 u) 1 v) 0).trans rfl
  have r1 : ∀ u v, ((w1.setCell ⟨w.heap.size + 1 + 1, 0, none⟩ u).setCell ⟨w.heap.size + 1 + 1, 1, none⟩ v).cell? ⟨w.heap.size + 1 + 1, 1, none⟩ = some v := fun u v => (blk_cell (blk_set (blk_set d2 0 u) 1 v) 1).trans rfl
  have D2 := Aside0.mk d2
  clear d2
  rcases hh with ⟨h1, h2, h3⟩ | ⟨h1, h3⟩
  · have hne : ((k : Int) == (l.length : Int)) = false := by simp; omega
    have hki : (k : Int) < (l.length : Int) := by omega
    obtain ⟨ad, rfl, g1, g2⟩ := at_T58 HC1.out (k : Int) (by omega) hki
    rw [Int.toNat_natCast] at g1 g2
    have e3 : found3 l x = (x, (rd_T58 l k).f1, true) := by unfold found3; rw [h3, ← h2]
    have E3 := Aside0.mk e3
    rw [h2] at g1
    clear e3 h2 h3
    generalize (rd_T58 l k).f1 = y at g2 E3
    go_wp2
    go_region
    go_wp2
    refine bodyPost_ret (results_ct rfl _ _ (w.heap.size + 1 + 1) 58 #[.int .i64 x, .int .i64 y] (0, 0) _ rfl ((blk_set (blk_set D2.out 0 (.int .i64 x)) 1 (.int .i64 y)).trans rfl) Try.underlying58 rfl (by kernel_rfl)) rfl ?_
    exact ⟨by rw [E3.out]; rfl, below_drew (below_cells (below_cells HB1.out (by omega) 0 [_]) (by omega) 1 [_])⟩
  · have e3 : found3 l x = (0, 0, false) := by unfold found3; rw [h3]
    have E3 := Aside0.mk e3
    clear e3 h3
    rcases h1 with h1 | ⟨h1, h2⟩
    · have hne : ((k : Int) == (l.length : Int)) = true := by simp; omega
      go_wp2
      go_region
      go_wp2
      refine bodyPost_ret (results_ct rfl _ _ (w.heap.size + 1 + 1) 58 #[.int .i64 0, .int .i64 0] (0, 0) _ rfl ((blk_set (blk_set D2.out 0 (.int .i64 0)) 1 (.int .i64 0)).trans rfl) Try.underlying58 rfl (by kernel_rfl)) rfl ?_
      exact ⟨by rw [E3.out]; rfl, below_drew (below_cells (below_cells HB1.out (by omega) 0 [_]) (by omega) 1 [_])⟩
    · have hne : ((k : Int) == (l.length : Int)) = false := by simp; omega
      have hki : (k : Int) < (l.length : Int) := by omega
      obtain ⟨ad, rfl, g1, g2⟩ := at_T58 HC1.out (k : Int) (by omega) hki
      rw [Int.toNat_natCast] at g1 g2
      generalize (rd_T58 l k).f1 = y at g2
      generalize (rd_T58 l k).f0 = z at g1 h2
      have hz : (z == x) = false := by simpa using h2
      have hz2 : (z != x) = true := by simpa using h2
      go_wp2
      go_region
      go_wp2
      refine bodyPost_ret (results_ct rfl _ _ (w.heap.size + 1 + 1) 58 #[.int .i64 0, .int .i64 0] (0, 0) _ rfl ((blk_set (blk_set D2.out 0 (.int .i64 0)) 1 (.int .i64 0)).trans rfl) Try.underlying58 rfl (by kernel_rfl)) rfl ?_
      exact ⟨by rw [E3.out]; rfl, below_drew (below_cells (below_cells HB1.out (by omega) 0 [_]) (by omega) 1 [_])⟩
set_option maxHeartbeats 2000000 in
theorem canon_c (x : Int) (w : World) : Calls Try.prog 135 #[.int .i64 x] w fun e w' => e = .returned (.int .i64 (canon x)) ∧ Below w.heap.size w w' := by
  go_enter Try.func135, Try.ntmps135
  go_wp2_with fail
  refine (api_Alike.calls alike _ alike_f).mono ?_
  rintro e w1 ⟨v, rfl, hu, hb⟩
  have HU := Aside0.mk (SLk.of_R hu)
  have HB := Aside0.mk hb
  clear hu hb
  obtain ⟨A, c, rfl, _, _⟩ := HU.out
  go_wp2_with fail
  refine (find_c x HU.out (by decide) alike_lt).mono ?_
  rintro e w2 ⟨rfl, hb⟩
  have HB2 := Aside0.mk (below_step HB.out hb)
  clear hb
  have e : found3 alike x = match alike.find? (fun p => p.f0 == x) with | some p => (p.f0, p.f1, true) | none => (0, 0, false) := rfl
  have e2 : canon x = match alike.find? (fun p => p.f0 == x) with | some p => p.f1 | none => x := rfl
  cases hf : alike.find? (fun p => p.f0 == x) with
  | some p =>
    rw [hf] at e e2
    rw [e]
    have E2 := Aside0.mk e2
    clear e e2 hf
    dsimp only
    go_wp2_with fail
    go_ret
    exact ⟨by rw [E2.out]; rfl, below_alloc HB2.out _⟩
  | none =>
    rw [hf] at e e2
    rw [e]
    have E2 := Aside0.mk e2
    clear e e2 hf
    dsimp only
    go_wp2_with fail
    go_ret
    exact ⟨by rw [E2.out]; rfl, below_alloc HB2.out _⟩
def back3 (l : List S58) (x : Int) : Int × Int × Bool := match l.find? (fun p => p.f1 == x) with | some p => (p.f0, p.f1, true) | none => (0, 0, false)
theorem back3_ev (l : List S58) (x : Int) (hm : l.length ≤ 1000000) : Ev (fun k => pairs_list_back.f k l x) (back3 l x) := back_ev l x hm
set_option maxHeartbeats 2000000 in
theorem bracket_c (x : Int) (w : World) : Calls Try.prog 100 #[.int .i64 x] w fun e w' => e = .returned (.tuple #[.int .i64 (brk x).1, .int .i64 (brk x).2]) ∧ Below w.heap.size w w' := by
  rw [← brkP_eq]
  have e0 : brkP x = match tab.find? (fun p => p.f0 == x) with | some p => (1, canon p.f1) | none => match tab.find? (fun p => p.f1 == x) with | some p => (2, canon p.f1) | none => (0, 0) := rfl
  have e1 : found3 tab x = match tab.find? (fun p => p.f0 == x) with | some p => (p.f0, p.f1, true) | none => (0, 0, false) := rfl
  have E0 := Aside0.mk e0
  have E1 := Aside0.mk e1
  clear e0 e1
  go_enter Try.func100, Try.ntmps100
  go_wp2_with fail
  refine (api_Brackets.calls tab _ tab_f).mono ?_
  rintro e w1 ⟨v, rfl, hu, hb⟩
  have HU := Aside0.mk (SLk.of_R hu)
  have HB := Aside0.mk hb
  clear hu hb
  obtain ⟨A, c, rfl, hAc, hC⟩ := HU.out
  have HAC := Aside0.mk hAc
  have HC := Aside0.mk hC
  clear hAc hC
  go_wp2_with fail
  refine (find_c x HU.out (by decide +kernel) tab_lt).mono ?_
  rintro e w2 ⟨rfl, hb⟩
  have HB2 := Aside0.mk (below_step HB.out hb)
  have HC2 := Aside0.mk (Kd.C_below HC.out hb)
  clear hb
  have e := E1.out
  have e2 := E0.out
  cases hf : tab.find? (fun p => p.f0 == x) with
  | some p =>
    rw [hf] at e e2
    rw [e]
    have E2 := Aside0.mk e2
    clear e e2 hf E0 E1
    dsimp only
    go_wp2_with fail
    refine (canon_c p.f1 _).mono ?_
    rintro e w3 ⟨rfl, hb⟩
    have HB3 := Aside0.mk (below_step (below_alloc HB2.out _) hb)
    clear hb
    go_wp2_with fail
    refine bodyPost_ret (results_tmp2 rfl _ _ _) rfl ?_
    exact ⟨by rw [E2.out]; rfl, HB3.out⟩
  | none =>
    rw [hf] at e e2
    rw [e]
    have E2 := Aside0.mk e2
    clear e e2 hf E0 E1
    dsimp only
    obtain ⟨k, hk⟩ := (back3_ev tab x (by decide +kernel)).rounds
    go_wp2_with fail
    have hr : back3 tab x = match tab.find? (fun p => p.f1 == x) with | some p => (p.f0, p.f1, true) | none => ((0 : Int), (0 : Int), false) := rfl
    generalize back3 tab x = r at hk hr
    refine (pairs_list_back.calls k A c tab x r.1 r.2.1 r.2.2 _ (Kd.C_below HC2.out (below_alloc (Below.refl _ _) _)) HAC.out hk).mono ?_
    rintro e w3 ⟨rfl, hb⟩
    have HB3 := Aside0.mk (below_step (below_alloc HB2.out _) hb)
    clear hb hk
    cases hf2 : tab.find? (fun p => p.f1 == x) with
    | some p =>
      rw [hf2] at hr
      subst hr
      have e3 := E2.out
      rw [hf2] at e3
      have E3 := Aside0.mk e3
      clear hf2 e3 E2
      dsimp only
      go_wp2_with fail
      refine (canon_c p.f1 _).mono ?_
      rintro e w4 ⟨rfl, hb⟩
      have HB4 := Aside0.mk (below_step (below_alloc HB3.out _) hb)
      clear hb
      go_wp2_with fail
      refine bodyPost_ret (results_tmp2 rfl _ _ _) rfl ?_
      exact ⟨by rw [E3.out]; rfl, HB4.out⟩
    | none =>
      rw [hf2] at hr
      subst hr
      have e3 := E2.out
      rw [hf2] at e3
      have E3 := Aside0.mk e3
      clear hf2 e3 E2
      dsimp only
      go_wp2_with fail
      refine bodyPost_ret (results_tmp2 rfl _ _ _) rfl ?_
      exact ⟨by rw [E3.out]; rfl, below_alloc HB3.out _⟩
theorem lastWith_c {w : World} {A : Option Addr} {c : Nat} {ws : List S93} (b : Int) (h : SLk k93 w (.slice A ws.length c) ws) (hm : ws.length ≤ 1000000) : Calls Try.prog 101 #[.slice A ws.length c, .int .i64 b] w fun e w' => e = .returned (.int .i64 (lastW ws b)) ∧ Below w.heap.size w w' := by
  obtain ⟨A', c', e, hc, hC⟩ := h
  injection e with e1 e2 e3
  subst e1 e3
  obtain ⟨k, hk⟩ := (lastW_ev ws b hm).rounds
  exact (brack_lastWith.calls k _ _ ws b _ w hC hc hk).mono fun e w' h => ⟨h.1, h.2.below⟩
end Go.Proofs.Ytfkgjoflekemaaa.CBrack
