/- Merged of own texts: CEven1, CEven2, CFunc, CEven3, CEven4. -/
import Derived.Test.YtfkgjoflekemaaaCEvenP
import Derived.Test.YtfkgjoflekemaaaCBase
import Derived.Test.YtfkgjoflekemaaaUEven
import Derived.StillTailTactics
import Derived.Deep.QuietTactic
import Derived.BigQuiet
import Derived.Shelf.Abstract
/-! balance.embeds, isolates, body: contracts over plain words; a walk's state behind a pointer. -/
namespace Go.Proofs.Ytfkgjoflekemaaa.CEven
open Go.RowKit Go.Proofs.YtfkgjoflekemaaaW.PrintWords Go.Proofs.YtfkgjoflekemaaaW.PrintMore Go.Proofs.YtfkgjoflekemaaaW.PrintLast Go.Proofs.Ytfkgjoflekemaaa.U Go.Proofs.Ytfkgjoflekemaaa.CBase Go.Proofs.Ytfkgjoflekemaaa.UEven Go.Proofs.Ytfkgjoflekemaaa.PEmbedJoins
set_option linter.unusedVariables false
set_option linter.unusedSimpArgs false
theorem index_loop (xs : List Int) (x : Int) (hm : xs.length ≤ 1000000) (d : Nat) : ∀ i : Nat, i + d = xs.length → (∀ (j : Nat) (hj : j < xs.length), j < i → xs[j] ≠ x) →
    ∃ r : Int, Ev (fun k => slices_Index_int_int.l0 k xs x (xs.length : Int) (i : Int)) r ∧ (0 ≤ r ↔ x ∈ xs) := by
  induction d with
  | zero =>
    intro i hi hb
    refine ⟨-1, Ev.step (fun k => by rw [slices_Index_int_int.l0]) (ev_neg (by omega) (ev_now _)), ?_⟩
    constructor
    · intro h; omega
    · intro h
      obtain ⟨j, hj, e⟩ := List.mem_iff_getElem.1 h
      exact absurd e (hb j hj (by omega))
  | succ d ih =>
    intro i hi hb
    have hlt : i < xs.length := by omega
    by_cases h : x = xs[i]
    · refine ⟨i, Ev.step (fun k => by rw [slices_Index_int_int.l0]) (ev_pos (by omega) (ev_pos (by omega) (ev_pos (by omega) ?_))), ?_⟩
      · rw [rd_get hlt]; exact ev_pos h (ev_now _)
      · exact ⟨fun _ => by rw [h]; exact List.getElem_mem hlt, fun _ => by omega⟩
    · obtain ⟨r, hr, he⟩ := ih (i + 1) (by omega) (fun j hj hji => by
        by_cases e : j = i
        · subst e; exact fun h' => h h'.symm
        · exact hb j hj (by omega))
      refine ⟨r, Ev.step (fun k => by rw [slices_Index_int_int.l0]) (ev_pos (by omega) (ev_pos (by omega) (ev_pos (by omega) ?_))), he⟩
      rw [rd_get hlt]
      refine ev_neg h ?_
      rw [w64 (by omega) (by omega)]
      exact hr
theorem contains_ev (xs : List Int) (x : Int) (hm : xs.length ≤ 1000000) : Ev (fun k => slices_Contains_int_int.f k xs x) (decide (x ∈ xs)) := by
  obtain ⟨r, hr, he⟩ := index_loop xs x hm xs.length 0 (by omega) (fun j _ h => absurd h (Nat.not_lt_zero _))
  unfold slices_Contains_int_int.f
  refine ev_bind (a := r) hr ?_
  refine ev_eq (ev_now _) ?_
  rw [decide_eq_decide]
  exact he
theorem embeds_c (c : Int) (w : World) : Calls Try.prog 186 #[.int .i64 c] w fun e w' => e = .returned (.bool (embB c)) ∧ Below w.heap.size w w' := by
  obtain ⟨k, hk⟩ := (show Ev (fun k => balance_embeds.f k c) (embB c) from by
    unfold balance_embeds.f
    refine ev_bind (contains_ev [14, 15, 16, 17] c (by decide)) ?_
    refine ev_eq (ev_now _) ?_
    unfold embB
    rw [← Bool.decide_and, decide_eq_decide]
    simp; omega).rounds
  exact balance_embeds.calls k c _ w hk
theorem isolates_c (c : Int) (w : World) : Calls Try.prog 187 #[.int .i64 c] w fun e w' => e = .returned (.bool (isoB c)) ∧ Below w.heap.size w w' := by
  obtain ⟨k, hk⟩ := (show Ev (fun k => balance_isolates.f k c) (isoB c) from by
    unfold balance_isolates.f
    refine ev_bind (contains_ev [19, 20, 21] c (by decide)) ?_
    refine ev_eq (ev_now _) ?_
    unfold isoB
    rw [← Bool.decide_and, decide_eq_decide]
    simp; omega).rounds
  exact balance_isolates.calls k c _ w hk
/-- a paragraph without what parts it is its body -/
theorem body_c {u v : Value} {xs ys : List Int} {w : World} (h1 : SL w u xs) (h2 : SL w v ys) (hl : ys.length = xs.length) (hm : xs.length ≤ 1000000) (hb : ∀ c ∈ ys, c ≠ 10) :
    Calls Try.prog 172 #[u, v] w fun e w' => e = .returned (.int .i64 (xs.length : Int)) ∧ Below w.heap.size w w' := by
  obtain ⟨A, c, rfl, hc, h1⟩ := h1
  obtain ⟨B, d, rfl, hd, h2⟩ := h2
  obtain ⟨k, hk⟩ := (show Ev (fun k => balance_body.f k xs ys) (xs.length : Int) from by
    unfold balance_body.f
    refine ev_ite (fun h => Ev.step (fun k => by rw [balance_body.j0]) (ev_pos rfl (ev_now _))) (fun h => ?_)
    rw [w64 (by omega) (by omega)]
    refine ev_pos (by omega) (ev_pos (by omega) ?_)
    have e : ((rd ys ((xs.length : Int) - 1)) != 10) = true := by
      rw [show (xs.length : Int) - 1 = ((xs.length - 1 : Nat) : Int) by omega, rd_get (by omega)]
      exact bne_iff_ne.2 (hb _ (List.getElem_mem _))
    rw [e]
    exact Ev.step (fun k => by rw [balance_body.j0]) (ev_pos rfl (ev_now _))).rounds
  exact (balance_body.calls k A c xs B d ys _ w h1 hc h2 hd hk).mono fun e w' h => ⟨h.1, h.2.below⟩
/-! ### a walk's state -/
abbrev Own (w : World) (base : Nat) (ok : Nat → Prop) (v : Value) (xs : List Int) : Prop := Kd.R (Kd.int .i64) 3 w base ok v xs
/-- three rows of the call's own, apart from each other and from block g -/
structure Own3 (w : World) (base g : Nat) (a b c : Value) (xs ys zs : List Int) : Prop where
  ra : Own w base (fun k => (k ≠ g ∧ some k ≠ c.ownBlock) ∧ some k ≠ b.ownBlock) a xs
  rb : Own w base (fun k => (k ≠ g ∧ some k ≠ c.ownBlock) ∧ some k ≠ a.ownBlock) b ys
  rc : Own w base (fun k => (k ≠ g ∧ some k ≠ b.ownBlock) ∧ some k ≠ a.ownBlock) c zs
theorem Own3.swap {w : World} {base g : Nat} {a b c : Value} {xs ys zs : List Int} (h : Own3 w base g a b c xs ys zs) : Own3 w base g b a c ys xs zs := ⟨h.rb, h.ra, Kd.R_mono h.rc fun _ hk => ⟨⟨hk.1.1, hk.2⟩, hk.1.2⟩⟩
theorem Own3.turn {w : World} {base g : Nat} {a b c : Value} {xs ys zs : List Int} (h : Own3 w base g a b c xs ys zs) : Own3 w base g c b a zs ys xs := ⟨Kd.R_mono h.rc fun _ hk => ⟨⟨hk.1.1, hk.2⟩, hk.1.2⟩, Kd.R_mono h.rb fun _ hk => ⟨⟨hk.1.1, hk.2⟩, hk.1.2⟩, Kd.R_mono h.ra fun _ hk => ⟨⟨hk.1.1, hk.2⟩, hk.1.2⟩⟩
theorem Own3.below {w w' : World} {base g : Nat} {a b c : Value} {xs ys zs : List Int} (h : Own3 w base g a b c xs ys zs) (hb : Below w.heap.size w w') : Own3 w' base g a b c xs ys zs := ⟨Kd.R_below h.ra hb, Kd.R_below h.rb hb, Kd.R_below h.rc hb⟩
/-- one of them has grown -/
theorem Own3.step {w w1 : World} {base g : Nat} {a a1 b c : Value} {xs xs' ys zs : List Int} (h : Own3 w base g a b c xs ys zs) (ha : Own w1 base (fun k => (k ≠ g ∧ some k ≠ c.ownBlock) ∧ some k ≠ b.ownBlock) a1 xs') (hg : w.grownBy w1 a.ownBlock) (hat : a1.ownBlock = a.ownBlock ∨ ∃ k, a1.ownBlock = some k ∧ w.heap.size ≤ k) : Own3 w1 base g a1 b c xs' ys zs :=
  ⟨ha, Kd.R_after h.rb hg hat, Kd.R_after h.rc hg hat⟩
theorem Own3.fresh {w : World} {base g : Nat} {a b c : Value} {xs ys zs : List Int} (h : Own3 w base g a b c xs ys zs) (hg : g < w.heap.size) : ∀ k, w.heap.size ≤ k → (k ≠ g ∧ some k ≠ c.ownBlock) ∧ some k ≠ b.ownBlock := fun k hk => ⟨⟨by omega, fun e => by have := Kd.R_lt h.rc k e.symm; omega⟩, fun e => by have := Kd.R_lt h.rb k e.symm; omega⟩
/-- one of them is cut -/
theorem Own3.take {w : World} {base g n cp : Nat} {A : Option Addr} {b c : Value} {xs ys zs : List Int} (h : Own3 w base g (.slice A n cp) b c xs ys zs) (m : Nat) (hm : m ≤ xs.length) : Own3 w base g (.slice A m cp) b c (xs.take m) ys zs := by
  have e : (Value.slice A n cp).ownBlock = (Value.slice A m cp).ownBlock := by cases A <;> rfl
  refine ⟨Kd.R_take h.ra hm, ?_, ?_⟩
  · rw [← e]; exact h.rb
  · rw [← e]; exact h.rc
/-- a walk: its classes came in, its stack, what was lost and what is loose are its own -/
structure WS (w : World) (base g : Nat) (cv vs vl vo : Value) (s l o : List Int) : Prop where
  blk : w.heap[g]? = some (.cells #[cv, vs, vl, vo] 164 (0, 0))
  ge : base ≤ g
  own : Own3 w base g vs vl vo s l o
theorem WS.below {w w' : World} {base g : Nat} {cv vs vl vo : Value} {s l o : List Int} (h : WS w base g cv vs vl vo s l o) (hb : Below w.heap.size w w') : WS w' base g cv vs vl vo s l o := ⟨(hb.block _ (blk_lt h.blk)).trans h.blk, h.ge, h.own.below hb⟩
end Go.Proofs.Ytfkgjoflekemaaa.CEven
/-! The methods of a walk over what begins and ends: last, pop, endEmbed, endIsolate: walked. -/
namespace Go.Proofs.Ytfkgjoflekemaaa.CEven
open Go.RowKit Go.Proofs.YtfkgjoflekemaaaW.PrintWords Go.Proofs.YtfkgjoflekemaaaW.PrintMore Go.Proofs.YtfkgjoflekemaaaW.PrintLast Go.Proofs.Ytfkgjoflekemaaa.U Go.Proofs.Ytfkgjoflekemaaa.CBase Go.Proofs.Ytfkgjoflekemaaa.UEven Go.Proofs.Ytfkgjoflekemaaa.PEmbedJoins
set_option linter.unusedVariables false
set_option linter.unusedSimpArgs false
theorem WS.cells {w : World} {base g : Nat} {cv vs vl vo : Value} {s l o : List Int} (h : WS w base g cv vs vl vo s l o) : w.cell? ⟨g, 0, none⟩ = some cv ∧ w.cell? ⟨g, 1, none⟩ = some vs ∧ w.cell? ⟨g, 2, none⟩ = some vl ∧ w.cell? ⟨g, 3, none⟩ = some vo := ⟨(blk_cell h.blk 0).trans rfl, (blk_cell h.blk 1).trans rfl, (blk_cell h.blk 2).trans rfl, (blk_cell h.blk 3).trans rfl⟩
theorem Own3.set {w : World} {base g g' : Nat} {a b c : Value} {xs ys zs : List Int} {cells : Array Value} (h : Own3 w base g a b c xs ys zs) (hb : w.heap[g']? = some (.cells cells 164 (0, 0))) (j : Nat) (u : Value) : Own3 (w.setCell ⟨g', j, none⟩ u) base g a b c xs ys zs :=
  ⟨Kd.R_set h.ra hb (by decide) j u, Kd.R_set h.rb hb (by decide) j u, Kd.R_set h.rc hb (by decide) j u⟩
theorem WS.put1 {w : World} {base g : Nat} {cv old vs vl vo : Value} {s l o : List Int} (hb : w.heap[g]? = some (.cells #[cv, old, vl, vo] 164 (0, 0))) (hg : base ≤ g) (h : Own3 w base g vs vl vo s l o) : WS (w.setCell ⟨g, 1, none⟩ vs) base g cv vs vl vo s l o := ⟨(blk_set hb 1 _).trans rfl, hg, h.set hb 1 _⟩
theorem WS.put2 {w : World} {base g : Nat} {cv old vs vl vo : Value} {s l o : List Int} (hb : w.heap[g]? = some (.cells #[cv, vs, old, vo] 164 (0, 0))) (hg : base ≤ g) (h : Own3 w base g vs vl vo s l o) : WS (w.setCell ⟨g, 2, none⟩ vl) base g cv vs vl vo s l o := ⟨(blk_set hb 2 _).trans rfl, hg, h.set hb 2 _⟩
theorem WS.put3 {w : World} {base g : Nat} {cv old vs vl vo : Value} {s l o : List Int} (hb : w.heap[g]? = some (.cells #[cv, vs, vl, old] 164 (0, 0))) (hg : base ≤ g) (h : Own3 w base g vs vl vo s l o) : WS (w.setCell ⟨g, 3, none⟩ vo) base g cv vs vl vo s l o := ⟨(blk_set hb 3 _).trans rfl, hg, h.set hb 3 _⟩
set_option maxRecDepth 100000 in
set_option maxHeartbeats 1000000 in
theorem last_nil {w : World} {base g : Nat} {cv vs vl vo : Value} {l o : List Int} (h : WS w base g cv vs vl vo [] l o) : Calls Try.prog 194 #[.pointer (some ⟨g, 0, none⟩)] w fun e w' => e = .returned (.tuple #[.int .i64 0, .bool false]) ∧ Below w.heap.size w w' := by
  obtain ⟨A, c, rfl⟩ := Kd.R_slice h.own.ra
  obtain ⟨_, d1, _, _⟩ := h.cells
  rw [show ([] : List Int).length = 0 from rfl] at d1
  clear h
  go_enter Try.func194, Try.ntmps194
  go_wp2
  refine bodyPost_ret (results_tmp2 rfl _ _ _) rfl ?_
  exact ⟨rfl, Below.refl _ _⟩
set_option maxRecDepth 100000 in
set_option maxHeartbeats 1000000 in
theorem last_some {w : World} {base g : Nat} {cv vs vl vo : Value} {s l o : List Int} {x : Int} (h : WS w base g cv vs vl vo (s ++ [x]) l o) (hm : s.length ≤ 1000000) : Calls Try.prog 194 #[.pointer (some ⟨g, 0, none⟩)] w fun e w' => e = .returned (.tuple #[.int .i64 x, .bool true]) ∧ Below w.heap.size w w' := by
  obtain ⟨A, c, rfl, hc, hC⟩ := Kd.R_reads h.own.ra
  obtain ⟨_, d1, _, _⟩ := h.cells
  obtain ⟨ad, rfl, hx⟩ := Kd.at_int hC (s.length : Int) (by omega) (by simp; omega)
  have hl : (s ++ [x]).length = s.length + 1 := by simp
  rw [hl] at d1
  rw [rd_get (by simp), Int.toNat_natCast] at hx
  simp only [List.getElem_append_right (Nat.le_refl _), Nat.sub_self, List.getElem_cons_zero] at hx
  obtain ⟨n, hn⟩ : ∃ n, n = s.length := ⟨_, rfl⟩
  rw [← hn] at d1 hx hm
  have e1 : IntKind.i64.wrap (((n + 1 : Nat) : Int) - 1) = n := by rw [IntWalk.i64_in _ (by omega)]; omega
  have e2 : ((n : Nat) : Int).toNat = n := by omega
  clear h hC hc hl hn
  go_enter Try.func194, Try.ntmps194
  go_wp2_with fail
  go_quiet (fail)
  go_wp2
  refine bodyPost_ret (results_tmp2 rfl _ _ _) rfl ?_
  exact ⟨rfl, pw_below_drewN (Below.refl _ _) _⟩
set_option maxRecDepth 100000 in
set_option maxHeartbeats 1000000 in
theorem pop_c {w : World} {base g : Nat} {cv vs vl vo : Value} {s l o : List Int} {x : Int} (h : WS w base g cv vs vl vo (s ++ [x]) l o) (hm : s.length ≤ 1000000) : Calls Try.prog 195 #[.pointer (some ⟨g, 0, none⟩)] w fun e w' => e = .returned (.tuple #[]) ∧ ∃ vs', WS w' base g cv vs' vl vo s l o ∧ Below base w w' ∧ KeepBut w w' g none := by
  have H := Aside0.mk h
  obtain ⟨A, c, rfl, hc, hC⟩ := Kd.R_reads h.own.ra
  obtain ⟨_, d1, _, _⟩ := h.cells
  have f1 := blk_frozen h.blk 1
  have hl : (s ++ [x]).length = s.length + 1 := by simp
  rw [hl] at d1 hc
  obtain ⟨n, hn⟩ : ∃ n, n = s.length := ⟨_, rfl⟩
  rw [← hn] at d1 hm hc
  have e1 : IntKind.i64.wrap (((n + 1 : Nat) : Int) - 1) = n := by rw [IntWalk.i64_in _ (by omega)]; omega
  have e2 : ((n : Nat) : Int).toNat = n := by omega
  have e3 : IntKind.i64.wrap (n : Int) = n := IntWalk.i64_in _ (by omega)
  have e4 : (n : Int) ≤ (c : Int) := by omega
  have HN := Aside0.mk hn
  clear h hC hl hn
  go_enter Try.func195, Try.ntmps195
  refine start_ (n := 15) (S := (fun W => Below w.heap.size w W)) (ds := [14]) #[false, false, false, false, false, false, false, false, false, false, false, false, false, false, false] (by kernel_rfl) (by kernel_rfl) (by rfl) ((below_drew (Below.refl _ _))) (fun hS0 => ?_)
  refine pure_ (i := 0) (N := (some 2)) (v := ?_) (a' := ?_) #[true, false, false, false, false, false, false, false, false, false, false, false, false, false, false] rfl rfl (by kernel_rfl) (fun _ _ _ h => h) (Or.inl ⟨by rfl, ?_⟩) ?_ ?_
  rotate_left
  · intro w'
    go_simp
    with_reducible rfl
  rotate_left
  · simp only [Act.put, List.setIfInBounds_toArray, List.set_cons_zero, List.set_cons_succ]
    rfl
  refine pure_ (i := 1) (N := (some 3)) (v := ?_) (a' := ?_) #[true, true, false, false, false, false, false, false, false, false, false, false, false, false, false] rfl rfl (by kernel_rfl) (fun _ _ _ h => h) (Or.inl ⟨by rfl, ?_⟩) ?_ ?_
  rotate_left
  · intro w'
    go_simp
    with_reducible rfl
  rotate_left
  · simp only [Act.put, List.setIfInBounds_toArray, List.set_cons_zero, List.set_cons_succ]
    rfl
  refine pure_ (i := 2) (N := (some 4)) (v := ?_) (a' := ?_) #[true, true, true, false, false, false, false, false, false, false, false, false, false, false, false] rfl rfl (by kernel_rfl) (fun _ _ _ h => h) (Or.inl ⟨by rfl, ?_⟩) ?_ ?_
  rotate_left
  · intro w'
    go_simp
    with_reducible rfl
  rotate_left
  · simp only [Act.put, List.setIfInBounds_toArray, List.set_cons_zero, List.set_cons_succ]
    rfl
  refine pure_ (i := 3) (N := (some 5)) (v := ?_) (a' := ?_) #[true, true, true, true, false, false, false, false, false, false, false, false, false, false, false] rfl rfl (by kernel_rfl) (fun _ _ _ h => h) (Or.inl ⟨by rfl, ?_⟩) ?_ ?_
  rotate_left
  · intro w'
    go_simp
    with_reducible rfl
  rotate_left
  · simp only [Act.put, List.setIfInBounds_toArray, List.set_cons_zero, List.set_cons_succ]
    rfl
  refine take_ (i := 4) (N := (some 6)) (v := ?_) (a' := ?_) #[true, true, true, true, true, false, false, false, false, false, false, false, false, false, false] rfl rfl (by kernel_rfl) (fun _ _ _ h => h) (Or.inl ⟨by rfl, ?_⟩) hS0 ?_ ?_
  rotate_left
  · intro w' s0
    have hx0 := (s0.cell (World.block_lt_of_cell? _ _ d1)).trans d1
    go_simp
    with_reducible rfl
  rotate_left
  · simp only [Act.put, List.setIfInBounds_toArray, List.set_cons_zero, List.set_cons_succ]
    rfl
  refine pure_ (i := 5) (N := (some 7)) (v := ?_) (a' := ?_) #[true, true, true, true, true, true, false, false, false, false, false, false, false, false, false] rfl rfl (by kernel_rfl) (fun _ _ _ h => h) (Or.inl ⟨by rfl, ?_⟩) ?_ ?_
  rotate_left
  · intro w'
    go_simp
    with_reducible rfl
  rotate_left
  · simp only [Act.put, List.setIfInBounds_toArray, List.set_cons_zero, List.set_cons_succ]
    rfl
  refine pure_ (i := 6) (N := (some 8)) (v := ?_) (a' := ?_) #[true, true, true, true, true, true, true, false, false, false, false, false, false, false, false] rfl rfl (by kernel_rfl) (fun _ _ _ h => h) (Or.inl ⟨by rfl, ?_⟩) ?_ ?_
  rotate_left
  · intro w'
    go_simp
    with_reducible rfl
  rotate_left
  · simp only [Act.put, List.setIfInBounds_toArray, List.set_cons_zero, List.set_cons_succ]
    rfl
  refine pure_ (i := 7) (N := (some 9)) (v := ?_) (a' := ?_) #[true, true, true, true, true, true, true, true, false, false, false, false, false, false, false] rfl rfl (by kernel_rfl) (fun _ _ _ h => h) (Or.inl ⟨by rfl, ?_⟩) ?_ ?_
  rotate_left
  · intro w'
    go_simp
    with_reducible rfl
  rotate_left
  · simp only [Act.put, List.setIfInBounds_toArray, List.set_cons_zero, List.set_cons_succ]
    rfl
  refine take_ (i := 8) (N := (some 10)) (v := ?_) (a' := ?_) #[true, true, true, true, true, true, true, true, true, false, false, false, false, false, false] rfl rfl (by kernel_rfl) (fun _ _ _ h => h) (Or.inl ⟨by rfl, ?_⟩) hS0 ?_ ?_
  rotate_left
  · intro w' s0
    have hx0 := (s0.cell (World.block_lt_of_cell? _ _ d1)).trans d1
    go_simp
    with_reducible rfl
  rotate_left
  · simp only [Act.put, List.setIfInBounds_toArray, List.set_cons_zero, List.set_cons_succ]
    rfl
  refine pure_ (i := 9) (N := (some 11)) (v := ?_) (a' := ?_) #[true, true, true, true, true, true, true, true, true, true, false, false, false, false, false] rfl rfl (by kernel_rfl) (fun _ _ _ h => h) (Or.inl ⟨by rfl, ?_⟩) ?_ ?_
  rotate_left
  · intro w'
    go_simp
    with_reducible rfl
  rotate_left
  · simp only [Act.put, List.setIfInBounds_toArray, List.set_cons_zero, List.set_cons_succ]
    rfl
  refine pure_ (i := 10) (N := (some 12)) (v := ?_) (a' := ?_) #[true, true, true, true, true, true, true, true, true, true, true, false, false, false, false] rfl rfl (by kernel_rfl) (fun _ _ _ h => h) (Or.inl ⟨by rfl, ?_⟩) ?_ ?_
  rotate_left
  · intro w'
    go_simp
    with_reducible rfl
  rotate_left
  · simp only [Act.put, List.setIfInBounds_toArray, List.set_cons_zero, List.set_cons_succ]
    rfl
  refine pure_ (i := 11) (N := (some 13)) (v := ?_) (a' := ?_) #[true, true, true, true, true, true, true, true, true, true, true, true, false, false, false] rfl rfl (by kernel_rfl) (fun _ _ _ h => h) (Or.inl ⟨by rfl, ?_⟩) ?_ ?_
  rotate_left
  · intro w'
    go_simp
    with_reducible rfl
  rotate_left
  · simp only [Act.put, List.setIfInBounds_toArray, List.set_cons_zero, List.set_cons_succ]
    rfl
  refine pure_ (i := 12) (N := (some 14)) (v := ?_) (a' := ?_) #[true, true, true, true, true, true, true, true, true, true, true, true, true, false, false] rfl rfl (by kernel_rfl) (fun _ _ _ h => h) (Or.inl ⟨by rfl, ?_⟩) ?_ ?_
  rotate_left
  · intro w'
    go_simp
    with_reducible rfl
  rotate_left
  · simp only [Act.put, List.setIfInBounds_toArray, List.set_cons_zero, List.set_cons_succ]
    rfl
  refine pure_ (i := 13) (N := (some 15)) (v := ?_) (a' := ?_) #[true, true, true, true, true, true, true, true, true, true, true, true, true, true, false] rfl rfl (by kernel_rfl) (fun _ _ _ h => h) (Or.inl ⟨by rfl, ?_⟩) ?_ ?_
  rotate_left
  · intro w'
    go_simp
    with_reducible rfl
  rotate_left
  · simp only [Act.put, List.setIfInBounds_toArray, List.set_cons_zero, List.set_cons_succ]
    rfl
  clear hS0
  refine last_ (i := 14) (N := none) #[true, true, true, true, true, true, true, true, true, true, true, true, true, true, true] rfl rfl (by kernel_rfl) (by decide) (fun K hK => ?_)
  refine skip_ (w1 := w.drew.setCell ⟨g, 1, none⟩ (.slice A n c)) (by rfl) rfl ?_ ?_
  · have d1' : w.drew.cell? ⟨g, 1, none⟩ = some (.slice A (n + 1) c) := d1
    have f1' : w.drew.frozen? ⟨g, 1, none⟩ = false := f1
    go_simp
  refine hK.out _ _ ?_
  clear hK
  refine done_ (by kernel_rfl) ?_
  go_end0
  have HW := H.out.own.take n (by have := HN.out; simp; omega)
  rw [show (s ++ [x]).take n = s by rw [HN.out]; simp] at HW
  refine ⟨rfl, _, WS.put1 (w := w.drew) (old := _) H.out.blk H.out.ge (HW.below (below_drew (Below.refl _ _))), ?_⟩
  exact ⟨(below_drew (Below.refl _ _)).setCell (p := ⟨g, 1, none⟩) H.out.ge _, (KeepBut.of_below (below_drew (Below.refl _ _)) g none).set_ 1 _⟩
theorem WS.grown3 {w w1 : World} {base g : Nat} {cv vs vl vo v1 : Value} {s l o o' : List Int} (h : WS w base g cv vs vl vo s l o) (hv : Own w1 base (fun k => (k ≠ g ∧ some k ≠ vs.ownBlock) ∧ some k ≠ vl.ownBlock) v1 o') (hg : w.grownBy w1 vo.ownBlock) (hat : v1.ownBlock = vo.ownBlock ∨ ∃ k, v1.ownBlock = some k ∧ w.heap.size ≤ k) : w1.heap[g]? = some (.cells #[cv, vs, vl, vo] 164 (0, 0)) ∧ Own3 w1 base g vs vl v1 s l o' :=
  ⟨(hg.block g (blk_lt h.blk) (Kd.R_ne h.own.rc h.blk (by decide))).trans h.blk, (h.own.turn.step hv hg hat).turn⟩
theorem WS.grown2 {w w1 : World} {base g : Nat} {cv vs vl vo v1 : Value} {s l o l' : List Int} (h : WS w base g cv vs vl vo s l o) (hv : Own w1 base (fun k => (k ≠ g ∧ some k ≠ vo.ownBlock) ∧ some k ≠ vs.ownBlock) v1 l') (hg : w.grownBy w1 vl.ownBlock) (hat : v1.ownBlock = vl.ownBlock ∨ ∃ k, v1.ownBlock = some k ∧ w.heap.size ≤ k) : w1.heap[g]? = some (.cells #[cv, vs, vl, vo] 164 (0, 0)) ∧ Own3 w1 base g vs v1 vo s l' o :=
  ⟨(hg.block g (blk_lt h.blk) (Kd.R_ne h.own.rb h.blk (by decide))).trans h.blk, (h.own.swap.step hv hg hat).swap⟩
theorem WS.grown1 {w w1 : World} {base g : Nat} {cv vs vl vo v1 : Value} {s l o s' : List Int} (h : WS w base g cv vs vl vo s l o) (hv : Own w1 base (fun k => (k ≠ g ∧ some k ≠ vo.ownBlock) ∧ some k ≠ vl.ownBlock) v1 s') (hg : w.grownBy w1 vs.ownBlock) (hat : v1.ownBlock = vs.ownBlock ∨ ∃ k, v1.ownBlock = some k ∧ w.heap.size ≤ k) : w1.heap[g]? = some (.cells #[cv, vs, vl, vo] 164 (0, 0)) ∧ Own3 w1 base g v1 vl vo s' l o :=
  ⟨(hg.block g (blk_lt h.blk) (Kd.R_ne h.own.ra h.blk (by decide))).trans h.blk, h.own.step hv hg hat⟩
/-- a walk as the plain law tells it -/
def WT (w : World) (base g : Nat) (cv : Value) (st : UEven.W) : Prop := ∃ vs vl vo, WS w base g cv vs vl vo st.stack.reverse st.lost st.loose
theorem WT.below {w w' : World} {base g : Nat} {cv : Value} {st : UEven.W} (h : WT w base g cv st) (hb : Below w.heap.size w w') : WT w' base g cv st := let ⟨vs, vl, vo, h⟩ := h; ⟨vs, vl, vo, h.below hb⟩
theorem WS.lt {w : World} {base g : Nat} {cv vs vl vo : Value} {s l o : List Int} (h : WS w base g cv vs vl vo s l o) : base ≤ w.heap.size := Nat.le_of_lt (Nat.lt_of_le_of_lt h.ge (blk_lt h.blk))
theorem below_to {B C : Nat} {a b : World} (h : Below B a b) (hc : C ≤ B) : Below C a b := ⟨h.os, h.tape, h.output, h.size, fun k hk => h.block k (Nat.lt_of_lt_of_le hk hc)⟩
theorem stepW_18 (cls : Int → Int) (st : UEven.W) (i : Int) : stepW cls st i 18 = (match st.stack with | j :: s => if embB (cls j) then { st with stack := s } else { st with loose := st.loose ++ [i] } | [] => { st with loose := st.loose ++ [i] }) := rfl
set_option maxRecDepth 100000 in
set_option maxHeartbeats 1000000 in
/-- what is loose is kept: the last part of endEmbed and endIsolate -/
theorem endEmbed_c {w : World} {base g : Nat} {cv : Value} {cls : List Int} {st : UEven.W} (i : Int) (hC : SL w cv cls) (h : WT w base g cv st) (hs : ∀ j ∈ st.stack, 0 ≤ j ∧ j < cls.length) (m1 : st.stack.length ≤ 1000000) (m3 : st.loose.length ≤ 1000000) :
    Calls Try.prog 188 #[.pointer (some ⟨g, 0, none⟩), .int .i64 i] w fun e w' => e = .returned (.tuple #[]) ∧ WT w' base g cv (stepW (rd cls) st i 18) ∧ Below base w w' := by
  obtain ⟨vs, vl, vo, h⟩ := h
  have HC := Aside0.mk hC
  have HS := Aside0.mk hs
  have M1 := Aside0.mk m1
  have M3 := Aside0.mk m3
  obtain ⟨s, l, o⟩ := st
  obtain ⟨A3, c3, rfl⟩ := Kd.R_slice h.own.rc
  have H := Aside0.mk h
  cases s with
  | nil =>
    clear h hC hs m1 m3
    go_enter Try.func188, Try.ntmps188
    go_wp2_with (first | (go_at_call 194; refine (last_nil H.out).mono ?_; rintro e w1 ⟨rfl, hb1⟩; have H1 : Aside0 (WS w1 base g _ vs vl (.slice A3 o.length c3) [] l o) := ⟨H.out.below hb1⟩; have HB1 : Aside0 (Below base w w1) := ⟨below_to hb1 H.out.lt⟩; have HC1 : Aside0 (SL w1 _ cls) := ⟨SLk.below HC.out hb1⟩; clear H HC hb1; obtain ⟨d0, d1, d2, d3⟩ := H1.out.cells; have f3 := blk_frozen H1.out.blk 3) | (at_builtin; refine Kd.R_append (Kd.int .i64) (w0 := w) base rfl (.tmp 28) (.tmp 30) 22 3 (.int .i64 0) 8 rfl Try.underlying22 CSlices.info3 rfl (by decide) (by omega) (.slice A3 o.length c3) o i [.int .i64 i] (fun k => (k ≠ g ∧ some k ≠ vs.ownBlock) ∧ some k ≠ vl.ownBlock) (fun _ => False) rfl rfl rfl (fun _ hk => hk.elim) (H1.out.own.turn.fresh (blk_lt H1.out.blk)) H1.out.own.turn.ra HB1.out H1.out.lt (by have := M3.out; omega) ?_; intro v1 w2 hv hb hg hat; obtain ⟨A4, c4, rfl⟩ := Kd.R_slice hv; obtain ⟨hblk, hown⟩ := H1.out.grown3 hv hg hat; have hln : (o ++ [i]).length = o.length + 1 := (by simp); rw [hln] at hown; have HBK := Aside0.mk hblk; have HOW := Aside0.mk hown; have HB2 := Aside0.mk hb; have e3 := (blk_cell hblk 3).trans rfl; have g3 := blk_frozen hblk 3; clear hv hb hg hat hblk hown hln d0 d1 d2 d3 f3))
    go_end0
    refine ⟨by first | rfl | trivial, ⟨vs, vl, _, WS.put3 HBK.out H1.out.ge HOW.out⟩, HB2.out.setCell (p := ⟨g, 3, none⟩) H1.out.ge _⟩
  | cons x r =>
    obtain ⟨h0, h1⟩ := hs x List.mem_cons_self
    obtain ⟨ad, ca, ecv, hx⟩ := SLk.at_int hC x h0 h1
    have hy : ((x :: r).reverse) = r.reverse ++ [x] := List.reverse_cons
    have M2 : Aside0 (r.reverse.length ≤ 1000000) := ⟨by simp at m1 ⊢; omega⟩
    have e0 : ((x.toNat : Nat) : Int) = x := by omega
    rw [stepW_18]
    dsimp only at h H ⊢
    rw [hy] at H
    obtain ⟨q, hq⟩ : ∃ q, q = r.reverse := ⟨_, rfl⟩
    rw [← hq] at H M2
    have HQ := Aside0.mk hq
    obtain ⟨b, hb0⟩ : ∃ b, b = embB (rd cls x) := ⟨_, rfl⟩
    rw [← hb0]
    have HE := Aside0.mk hb0
    subst ecv
    clear h hC hs m1 m3 hy hq hb0
    have hx1 : ∀ w1, Below w.heap.size w w1 → w1.cell? (ad.add x.toNat) = some (.int .i64 (rd cls x)) := fun w1 hb => (hb.cell (World.block_lt_of_cell? _ _ hx)).trans hx
    have HX := Aside0.mk hx1
    clear hx1 hx
    cases b with
    | true =>
      go_enter Try.func188, Try.ntmps188
      go_wp2_with (first | (go_at_call 194; refine (last_some H.out M2.out).mono ?_; rintro e w1 ⟨rfl, hb1⟩; have H1 : Aside0 (WS w1 base g _ vs vl (.slice A3 o.length c3) (q ++ [x]) l o) := ⟨H.out.below hb1⟩; have HB1 : Aside0 (Below base w w1) := ⟨below_to hb1 H.out.lt⟩; have HC1 : Aside0 (SL w1 _ cls) := ⟨SLk.below HC.out hb1⟩;  obtain ⟨d0, d1, d2, d3⟩ := H1.out.cells; have f3 := blk_frozen H1.out.blk 3; have hx := HX.out _ hb1; clear H HC hb1) | (go_at_call 186; refine (embeds_c _ _).mono ?_; rintro e w2 ⟨rfl, hb2⟩; rw [← HE.out]; have H2 : Aside0 (WS w2 base g _ vs vl (.slice A3 o.length c3) (q ++ [x]) l o) := ⟨H1.out.below hb2⟩; have HB2 : Aside0 (Below base w w2) := ⟨HB1.out.trans (below_to hb2 H1.out.lt)⟩; clear hb2 d0 d1 d2 d3 f3 hx; obtain ⟨d0, d1, d2, d3⟩ := H2.out.cells; have f3 := blk_frozen H2.out.blk 3; clear H1 HB1) | (go_at_call 195; refine (pop_c H2.out M2.out).mono ?_; rintro e w3 ⟨rfl, vs', hw3, hb3, _⟩; have HP := Aside0.mk hw3; have HB3 : Aside0 (Below base w w3) := ⟨HB2.out.trans hb3⟩; clear hw3 hb3 d0 d1 d2 d3 f3))
      refine bodyPost_ret (results_none rfl _ _ _) rfl ?_
      exact ⟨rfl, ⟨_, vl, _, by rw [HQ.out] at HP; exact HP.out⟩, HB3.out⟩
    | false =>
      go_enter Try.func188, Try.ntmps188
      go_wp2_with (first | (go_at_call 194; refine (last_some H.out M2.out).mono ?_; rintro e w1 ⟨rfl, hb1⟩; have H1 : Aside0 (WS w1 base g _ vs vl (.slice A3 o.length c3) (q ++ [x]) l o) := ⟨H.out.below hb1⟩; have HB1 : Aside0 (Below base w w1) := ⟨below_to hb1 H.out.lt⟩; have HC1 : Aside0 (SL w1 _ cls) := ⟨SLk.below HC.out hb1⟩;  obtain ⟨d0, d1, d2, d3⟩ := H1.out.cells; have f3 := blk_frozen H1.out.blk 3; have hx := HX.out _ hb1; clear H HC hb1) | (go_at_call 186; refine (embeds_c _ _).mono ?_; rintro e w2 ⟨rfl, hb2⟩; rw [← HE.out]; have H2 : Aside0 (WS w2 base g _ vs vl (.slice A3 o.length c3) (q ++ [x]) l o) := ⟨H1.out.below hb2⟩; have HB2 : Aside0 (Below base w w2) := ⟨HB1.out.trans (below_to hb2 H1.out.lt)⟩; clear hb2 d0 d1 d2 d3 f3 hx; obtain ⟨d0, d1, d2, d3⟩ := H2.out.cells; have f3 := blk_frozen H2.out.blk 3; clear H1 HB1) | (at_builtin; refine Kd.R_append (Kd.int .i64) (w0 := w) base rfl (.tmp 28) (.tmp 30) 22 3 (.int .i64 0) 8 rfl Try.underlying22 CSlices.info3 rfl (by decide) (by omega) (.slice A3 o.length c3) o i [.int .i64 i] (fun k => (k ≠ g ∧ some k ≠ vs.ownBlock) ∧ some k ≠ vl.ownBlock) (fun _ => False) rfl rfl rfl (fun _ hk => hk.elim) (H2.out.own.turn.fresh (blk_lt H2.out.blk)) H2.out.own.turn.ra HB2.out H2.out.lt (by have := M3.out; omega) ?_; intro v1 w3 hv hb hg hat; obtain ⟨A4, c4, rfl⟩ := Kd.R_slice hv; obtain ⟨hblk, hown⟩ := H2.out.grown3 hv hg hat; have hln : (o ++ [i]).length = o.length + 1 := (by simp); rw [hln] at hown; have HBK := Aside0.mk hblk; have HOW := Aside0.mk hown; have HB3 := Aside0.mk hb; have e3 := (blk_cell hblk 3).trans rfl; have g3 := blk_frozen hblk 3; clear hv hb hg hat hblk hown hln d0 d1 d2 d3 f3))
      go_end0
      exact ⟨rfl, ⟨vs, vl, _, by have := WS.put3 HBK.out H2.out.ge HOW.out; rw [HQ.out, ← List.reverse_cons] at this; exact this⟩, HB3.out.setCell (p := ⟨g, 3, none⟩) H2.out.ge _⟩
end Go.Proofs.Ytfkgjoflekemaaa.CEven
/-! slices.IndexFunc and ContainsFunc on whole numbers, whatever the function value is. -/
namespace Go.Proofs.Ytfkgjoflekemaaa.CFunc
open Go.RowKit Go.Proofs.YtfkgjoflekemaaaW.PrintWords Go.Proofs.YtfkgjoflekemaaaW.PrintMore Go.Proofs.YtfkgjoflekemaaaW.PrintLast Go.Proofs.Ytfkgjoflekemaaa.U Go.Proofs.Ytfkgjoflekemaaa.CBase
set_option linter.unusedVariables false
set_option linter.unusedSimpArgs false
set_option maxRecDepth 100000 in
set_option maxHeartbeats 1000000 in
theorem indexFunc_c {w : World} {v : Value} {xs : List Int} (h : SL w v xs) (hm : xs.length ≤ 1000000) (g : Nat) (cb : Array Value) (eg : ∀ args w, (callFunc g args).run Try.prog w = .ok (.enter g args) w) (P : Int → Bool)
    (hstep : ∀ (wx : World) (x : Int), x ∈ xs → Below w.heap.size w wx → Calls Try.prog g (#[.int .i64 x] ++ cb) wx fun e w' => e = .returned (.bool (P x)) ∧ Below wx.heap.size wx w') :
    Calls Try.prog 170 #[v, .func (.func g) #[] cb] w fun e w' => ∃ r : Int, e = .returned (.int .i64 r) ∧ decide (0 ≤ r) = xs.any P ∧ Below w.heap.size w w' := by
  have H := Aside0.mk h
  have HS := Aside0.mk hstep
  obtain ⟨A, c, rfl, _, _⟩ := h
  clear hstep
  go_enter Try.func170, Try.ntmps170
  go_wp2_with fail
  go_loopw [5, 8] (fun _ v wr => ∃ k : Nat, v = .int .i64 k ∧ k ≤ xs.length ∧ Aside0 ((xs.take k).any P = false) ∧ Aside0 (Below w.heap.size w wr)) (fun _ v _ => xs.length - (intOf v).toNat)
  case atStart => exact ⟨0, rfl, Nat.zero_le _, ⟨rfl⟩, ⟨Below.refl _ _⟩⟩
  case round =>
    obtain ⟨k, rfl, hk, HN, HB⟩ := hrel
    by_cases hlt : k < xs.length
    · obtain ⟨ad, c1, ea, hct⟩ := SLk.at_int (SLk.below H.out HB.out) (k : Int) (by omega) (by omega)
      injection ea with e1 e2 e3
      subst e1
      rw [rd_get hlt] at hct
      simp only [Int.toNat_natCast] at hct
      have HM : Aside0 (xs[k] ∈ xs) := ⟨List.getElem_mem hlt⟩
      have ht : (xs.take (k + 1)).any P = ((xs.take k).any P || P xs[k]) := by rw [List.take_succ_eq_append_getElem hlt, List.any_append]; simp
      have HT := Aside0.mk ht
      have hall : P xs[k] = true → xs.any P = true := fun hp => List.any_eq_true.2 ⟨_, List.getElem_mem hlt, hp⟩
      have HA := Aside0.mk hall
      clear e2 e3 ht hall
      obtain ⟨x, hx⟩ : ∃ x, x = xs[k] := ⟨_, rfl⟩
      rw [← hx] at hct HM HT HA
      clear hx
      go_wp2_with fail
      refine (HS.out _ _ HM.out HB.out).mono ?_
      rintro e w2 ⟨rfl, hb⟩
      have HB2 : Aside0 (Below w.heap.size w w2) := ⟨below_step HB.out hb⟩
      clear hb hct
      obtain ⟨b, hb⟩ : ∃ b, b = P x := ⟨_, rfl⟩
      rw [← hb] at HT HA ⊢
      clear hb
      cases b with
      | true =>
        have HA2 : Aside0 (xs.any P = true) := ⟨HA.out rfl⟩
        clear HA HT
        go_wp2
        go_ret
        exact ⟨_, rfl, by rw [HA2.out]; simp, HB2.out⟩
      | false =>
        go_wp2
        exact ⟨⟨k + 1, by go_num, by omega, ⟨by rw [HT.out, HN.out]; rfl⟩, HB2⟩, by simp [intOf]; omega⟩
    · go_wp2
      go_ret
      have := HN.out
      rw [List.take_of_length_le (by omega)] at this
      exact ⟨_, rfl, by rw [this]; rfl, HB.out⟩
set_option maxRecDepth 100000 in
set_option maxHeartbeats 1000000 in
theorem containsFunc_c {w : World} {v : Value} {xs : List Int} (h : SL w v xs) (hm : xs.length ≤ 1000000) (g : Nat) (cb : Array Value) (eg : ∀ args w, (callFunc g args).run Try.prog w = .ok (.enter g args) w) (P : Int → Bool)
    (hstep : ∀ (wx : World) (x : Int), x ∈ xs → Below w.heap.size w wx → Calls Try.prog g (#[.int .i64 x] ++ cb) wx fun e w' => e = .returned (.bool (P x)) ∧ Below wx.heap.size wx w') :
    Calls Try.prog 146 #[v, .func (.func g) #[] cb] w fun e w' => e = .returned (.bool (xs.any P)) ∧ Below w.heap.size w w' := by
  have H := Aside0.mk h
  have HS := Aside0.mk hstep
  obtain ⟨A, c, rfl, _, _⟩ := h
  clear hstep
  go_enter Try.func146, Try.ntmps146
  go_wp2_with (go_at_call 170; refine (indexFunc_c H.out hm g cb eg P HS.out).mono ?_; rintro e w1 ⟨r, rfl, hr, hb⟩; have HR := Aside0.mk hr; have HB := Aside0.mk hb; clear hr hb)
  go_ret
  refine ⟨?_, HB.out⟩
  rw [← HR.out]
  rfl
end Go.Proofs.Ytfkgjoflekemaaa.CFunc
/-! The end of an isolate: (*walk).endIsolate walked. -/
namespace Go.Proofs.Ytfkgjoflekemaaa.CEven
open Go.RowKit Go.Shelf Go.Proofs.YtfkgjoflekemaaaW.PrintWords Go.Proofs.YtfkgjoflekemaaaW.PrintMore Go.Proofs.YtfkgjoflekemaaaW.PrintLast Go.Proofs.Ytfkgjoflekemaaa.U Go.Proofs.Ytfkgjoflekemaaa.CBase Go.Proofs.Ytfkgjoflekemaaa.UEven Go.Proofs.Ytfkgjoflekemaaa.PEmbedJoins Go.Proofs.Ytfkgjoflekemaaa.CFunc
set_option linter.unusedVariables false
set_option linter.unusedSimpArgs false
set_option maxRecDepth 100000 in
set_option maxHeartbeats 1000000 in
theorem opens_c {w : World} {B g : Nat} {cv : Value} {cls : List Int} (hb : w.cell? ⟨B, 0, none⟩ = some (.pointer (some ⟨g, 0, none⟩))) (hg : w.cell? ⟨g, 0, none⟩ = some cv) (hC : SL w cv cls) (x : Int) (h0 : 0 ≤ x) (h1 : x < cls.length) :
    Calls Try.prog 196 #[.int .i64 x, .pointer (some ⟨B, 0, none⟩)] w fun e w' => e = .returned (.bool (isoB (rd cls x))) ∧ Below w.heap.size w w' := by
  obtain ⟨ad, ca, rfl, hx⟩ := SLk.at_int hC x h0 h1
  have e0 : ((x.toNat : Nat) : Int) = x := by omega
  clear hC
  go_enter Try.func196, Try.ntmps196
  go_wp2_with (go_at_call 187; refine (isolates_c _ _).mono ?_; rintro e w1 ⟨rfl, hb1⟩; have HB1 := Aside0.mk hb1; clear hb1)
  go_ret
  exact ⟨rfl, HB1.out⟩
theorem cell_al {w : World} {p : Addr} {v : Value} (h : w.cell? p = some v) (o : Obj) : (w.alloc o).cell? p = some v := ((below_alloc (Below.refl _ _) o).cell (World.block_lt_of_cell? _ _ h)).trans h
theorem popI_any (k : Int → Bool) (s : List Int) : (popI k s).isSome = s.any k := by
  induction s with
  | nil => rfl
  | cons i t ih =>
    unfold popI
    rw [List.any_cons]
    cases h : k i with
    | true => rfl
    | false => simp [ih]
theorem popI_split (k : Int → Bool) (s : List Int) : ∀ p, popI k s = some p → ∃ y, s = p.1 ++ y :: p.2 ∧ k y = true ∧ ∀ j ∈ p.1, k j = false := by
  induction s with
  | nil => intro p h; cases h
  | cons i t ih =>
    intro p h
    unfold popI at h
    split at h
    · rename_i hi
      obtain rfl := Option.some.inj h
      exact ⟨i, rfl, hi, fun j hj => by simp at hj⟩
    · rename_i hi
      obtain ⟨q, hq, rfl⟩ := Option.map_eq_some_iff.1 h
      obtain ⟨y, e, hy, ha⟩ := ih q hq
      refine ⟨y, by rw [e]; rfl, hy, fun j hj => ?_⟩
      rcases List.mem_cons.1 hj with rfl | hj
      · simpa using hi
      · exact ha j hj
theorem stepW_22 (cls : Int → Int) (st : UEven.W) (i : Int) : stepW cls st i 22 = (match popI (fun j => isoB (cls j)) st.stack with | some p => { st with stack := p.2, lost := st.lost ++ p.1 } | none => { st with loose := st.loose ++ [i] }) := rfl
/-- how many are on the stack, read off the world -/
def stackLen (w : World) (g : Nat) : Nat := match w.cell? ⟨g, 1, none⟩ with | some (.slice _ n _) => n | _ => 0
theorem stackLen_eq {w : World} {g n c : Nat} {A : Option Addr} (h : w.cell? ⟨g, 1, none⟩ = some (.slice A n c)) : stackLen w g = n := by unfold stackLen; rw [h]
/-- between two rounds: what is gone of the stack is lost -/
def IsoInv (w : World) (base g B : Nat) (cv : Value) (p : List Int × List Int) (y : Int) (l o : List Int) (A3 : Option Addr) (c3 : Nat) (wr : World) : Prop := ∃ (gone rest : List Int) (A1 A2 : Option Addr) (c1 c2 : Nat), p.1 = gone ++ rest ∧ WS wr base g cv (.slice A1 ((rest ++ y :: p.2).reverse).length c1) (.slice A2 (l ++ gone).length c2) (.slice A3 o.length c3) (rest ++ y :: p.2).reverse (l ++ gone) o ∧ wr.heap[B]? = some (.cells #[.pointer (some ⟨g, 0, none⟩)] 159 (0, 0)) ∧ Below base w wr
set_option maxRecDepth 100000 in
set_option maxHeartbeats 1000000 in
theorem endIsolate_c {w : World} {base g : Nat} {cv : Value} {cls : List Int} {st : UEven.W} (i : Int) (hC : ∀ W, Below base w W → SL W cv cls) (h : WT w base g cv st) (hs : ∀ j ∈ st.stack, 0 ≤ j ∧ j < cls.length) (m1 : st.stack.length ≤ 1000000) (m2 : st.lost.length + st.stack.length ≤ 1000000) (m3 : st.loose.length ≤ 1000000) :
    Calls Try.prog 189 #[.pointer (some ⟨g, 0, none⟩), .int .i64 i] w fun e w' => e = .returned (.tuple #[]) ∧ WT w' base g cv (stepW (rd cls) st i 22) ∧ Below base w w' := by
  obtain ⟨vs, vl, vo, h⟩ := h
  have hlt := h.lt
  have HB0 : Aside0 (Below base w (w.alloc (.cells #[.pointer (some ⟨g, 0, none⟩)] 159))) := ⟨below_to (below_alloc (Below.refl _ _) _) hlt⟩
  have HBX : Aside0 ((w.alloc (.cells #[.pointer (some ⟨g, 0, none⟩)] 159)).heap[w.heap.size]? = some (.cells #[.pointer (some ⟨g, 0, none⟩)] 159 (0, 0))) := ⟨blk_new w _⟩
  have H0 : Aside0 (WS (w.alloc (.cells #[.pointer (some ⟨g, 0, none⟩)] 159)) base g cv vs vl vo st.stack.reverse st.lost st.loose) := ⟨h.below (below_alloc (Below.refl _ _) _)⟩
  have HC0 : Aside0 (SL (w.alloc (.cells #[.pointer (some ⟨g, 0, none⟩)] 159)) cv cls) := ⟨hC _ (below_to (below_alloc (Below.refl _ _) _) hlt)⟩
  have HC := Aside0.mk hC
  have HS := Aside0.mk hs
  have M1 := Aside0.mk m1
  have M2 := Aside0.mk m2
  have M3 := Aside0.mk m3
  have HGB : Aside0 (g < w.heap.size) := ⟨blk_lt h.blk⟩
  obtain ⟨s, l, o⟩ := st
  clear h hC hs m1 m2 m3 hlt
  obtain ⟨A3, c3, rfl⟩ := Kd.R_slice H0.out.own.rc
  obtain ⟨A2, c2, rfl⟩ := Kd.R_slice H0.out.own.rb
  obtain ⟨A1, c1, rfl⟩ := Kd.R_slice H0.out.own.ra
  obtain ⟨d0, d1, d2, d3⟩ := H0.out.cells
  have b0 : (w.alloc (.cells #[.pointer (some ⟨g, 0, none⟩)] 159)).cell? ⟨w.heap.size, 0, none⟩ = some (.pointer (some ⟨g, 0, none⟩)) := (blk_cell HBX.out 0).trans rfl
  dsimp only at H0 HS M1 M2 M3 d0 d1 d2 d3
  have hopen : (s.reverse.any fun x => isoB (rd cls x)) = (popI (fun j => isoB (rd cls j)) s).isSome := by rw [popI_any, List.any_reverse]
  have hql : s.reverse.length ≤ 1000000 := by have := M1.out; simpa using this
  have hqs : ∀ x ∈ s.reverse, 0 ≤ x ∧ x < cls.length := fun x hx => HS.out x (List.mem_reverse.1 hx)
  obtain ⟨q, hq⟩ : ∃ q, q = s.reverse := ⟨_, rfl⟩
  rw [← hq] at H0 hopen hql hqs d1
  have HQ := Aside0.mk hq
  have HQL := Aside0.mk hql
  have HQS := Aside0.mk hqs
  clear hq hql hqs
  obtain ⟨st', hst⟩ : ∃ st', st' = stepW (rd cls) { stack := s, lost := l, loose := o } i 22 := ⟨_, rfl⟩
  rw [← hst]
  rw [stepW_22] at hst
  dsimp only at hst
  go_enter Try.func189, Try.ntmps189
  go_wp2_with fail
  refine (containsFunc_c (SLk.of_R H0.out.own.ra) HQL.out 196 #[.pointer (some ⟨w.heap.size, 0, none⟩)] (enters_of Try.func196 (by kernel_rfl) rfl) (fun x => isoB (rd cls x)) (fun wx x hx hb => opens_c ((hb.cell (World.block_lt_of_cell? _ _ b0)).trans b0) ((hb.cell (World.block_lt_of_cell? _ _ d0)).trans d0) (SLk.below HC0.out hb) x (HQS.out x hx).1 (HQS.out x hx).2)).mono ?_
  rintro e w1 ⟨rfl, hb1⟩
  rw [hopen]
  have H1 : Aside0 (WS w1 base g cv (.slice A1 q.length c1) (.slice A2 l.length c2) (.slice A3 o.length c3) q l o) := ⟨H0.out.below hb1⟩
  have HB1 : Aside0 (Below base w w1) := ⟨HB0.out.trans (below_to hb1 H0.out.lt)⟩
  have HX1 : Aside0 (w1.heap[w.heap.size]? = some (.cells #[.pointer (some ⟨g, 0, none⟩)] 159 (0, 0))) := ⟨(hb1.block _ (blk_lt HBX.out)).trans HBX.out⟩
  clear hb1 b0 d0 d1 d2 d3 H0 HC0 HB0 HBX hopen
  obtain ⟨B, hB⟩ : ∃ B, B = w.heap.size := ⟨_, rfl⟩
  rw [← hB] at HX1 HGB ⊢
  have HBW := Aside0.mk hB
  clear hB
  obtain ⟨d0, d1, d2, d3⟩ := H1.out.cells
  have b0 : w1.cell? ⟨B, 0, none⟩ = some (.pointer (some ⟨g, 0, none⟩)) := (blk_cell HX1.out 0).trans rfl
  generalize hp : popI (fun j => isoB (rd cls j)) s = pp at hst ⊢
  have HST := Aside0.mk hst
  clear hst
  cases pp with
  | none =>
    dsimp only [Option.isSome]
    clear hp
    go_wp2_with fail
    have H1d : Aside0 (WS w1.drew base g cv (.slice A1 q.length c1) (.slice A2 l.length c2) (.slice A3 o.length c3) q l o) := ⟨H1.out.below (below_drew (Below.refl _ _))⟩
    have HB1d : Aside0 (Below base w w1.drew) := ⟨HB1.out.trans (below_drew (Below.refl _ _))⟩
    refine start_ (n := 11) (S := (fun W => W.cell? ⟨B, 0, none⟩ = some (.pointer (some ⟨g, 0, none⟩)) ∧ W.cell? ⟨g, 3, none⟩ = some (.slice A3 o.length c3))) (ds := [10]) #[false, false, false, false, false, false, false, false, false, false, false] (by kernel_rfl) (by kernel_rfl) (by rfl) (⟨b0, d3⟩) (fun hS0 => ?_)
    refine take_ (i := 0) (N := (some 15)) (v := ?_) (a' := ?_) #[true, false, false, false, false, false, false, false, false, false, false] rfl rfl (by kernel_rfl) (fun _ _ _ h => h) (Or.inl ⟨by rfl, ?_⟩) hS0 ?_ ?_
    rotate_left
    · intro w' s0
      obtain ⟨hx0, hx1⟩ := s0
      go_simp
      with_reducible rfl
    rotate_left
    · simp only [Act.put, List.setIfInBounds_toArray, List.set_cons_zero, List.set_cons_succ]
      rfl
    refine take_ (i := 1) (N := (some 16)) (v := ?_) (a' := ?_) #[true, true, false, false, false, false, false, false, false, false, false] rfl rfl (by kernel_rfl) (fun _ _ _ h => h) (Or.inl ⟨by rfl, ?_⟩) hS0 ?_ ?_
    rotate_left
    · intro w' s0
      obtain ⟨hx0, hx1⟩ := s0
      go_simp
      with_reducible rfl
    rotate_left
    · simp only [Act.put, List.setIfInBounds_toArray, List.set_cons_zero, List.set_cons_succ]
      rfl
    refine pure_ (i := 2) (N := (some 17)) (v := ?_) (a' := ?_) #[true, true, true, false, false, false, false, false, false, false, false] rfl rfl (by kernel_rfl) (fun _ _ _ h => h) (Or.inl ⟨by rfl, ?_⟩) ?_ ?_
    rotate_left
    · intro w'
      go_simp
      with_reducible rfl
    rotate_left
    · simp only [Act.put, List.setIfInBounds_toArray, List.set_cons_zero, List.set_cons_succ]
      rfl
    refine pure_ (i := 3) (N := (some 18)) (v := ?_) (a' := ?_) #[true, true, true, true, false, false, false, false, false, false, false] rfl rfl (by kernel_rfl) (fun _ _ _ h => h) (Or.inl ⟨by rfl, ?_⟩) ?_ ?_
    rotate_left
    · intro w'
      go_simp
      with_reducible rfl
    rotate_left
    · simp only [Act.put, List.setIfInBounds_toArray, List.set_cons_zero, List.set_cons_succ]
      rfl
    refine take_ (i := 4) (N := (some 19)) (v := ?_) (a' := ?_) #[true, true, true, true, true, false, false, false, false, false, false] rfl rfl (by kernel_rfl) (fun _ _ _ h => h) (Or.inl ⟨by rfl, ?_⟩) hS0 ?_ ?_
    rotate_left
    · intro w' s0
      obtain ⟨hx0, hx1⟩ := s0
      go_simp
      with_reducible rfl
    rotate_left
    · simp only [Act.put, List.setIfInBounds_toArray, List.set_cons_zero, List.set_cons_succ]
      rfl
    refine pure_ (i := 5) (N := (some 20)) (v := ?_) (a' := ?_) #[true, true, true, true, true, true, false, false, false, false, false] rfl rfl (by kernel_rfl) (fun _ _ _ h => h) (Or.inl ⟨by rfl, ?_⟩) ?_ ?_
    rotate_left
    · intro w'
      go_simp
      with_reducible rfl
    rotate_left
    · simp only [Act.put, List.setIfInBounds_toArray, List.set_cons_zero, List.set_cons_succ]
      rfl
    clear hS0
    refine one_ (i := 6) (N := (some 21)) #[true, true, true, true, true, true, true, false, false, false, false] rfl rfl (by kernel_rfl) (by decide) (fun K hK => ?_)
    have b0a : (w1.drew.alloc (.cells #[.int .i64 i] 3)).cell? ⟨B, 0, none⟩ = some (.pointer (some ⟨g, 0, none⟩)) := cell_al b0 _
    have d3a : (w1.drew.alloc (.cells #[.int .i64 i] 3)).cell? ⟨g, 3, none⟩ = some (.slice A3 o.length c3) := cell_al d3 _
    refine value_ (w1 := w1.drew.alloc (.cells #[.int .i64 i] 3)) (v := .slice (some ⟨w1.drew.heap.size, 0, none⟩) 1 1) (by rfl) rfl (by go_simp) ?_
    change K (Act.put _ (some 21) _) _
    refine hK.out _ _ ⟨b0a, d3a⟩ (fun hS0 => ?_)
    clear hK
    refine norm_ (a' := ?_) ?_ ?_
    rotate_left
    · simp only [Act.put, List.setIfInBounds_toArray, List.set_cons_zero, List.set_cons_succ]
      rfl
    clear hS0
    refine one_ (i := 7) (N := (some 22)) #[true, true, true, true, true, true, true, true, false, false, false] rfl rfl (by kernel_rfl) (by decide) (fun K hK => ?_)
    refine Kd.R_append_step (Kd.int .i64) (w0 := w) base (by rfl) (.tmp 19) (.tmp 21) 22 3 (.int .i64 0) 8 rfl Try.underlying22 CSlices.info3 rfl (by decide) (by omega) (.slice A3 o.length c3) o i [.int .i64 i] (fun k => (k ≠ g ∧ some k ≠ (Value.slice A1 q.length c1).ownBlock) ∧ some k ≠ (Value.slice A2 l.length c2).ownBlock) (fun _ => False) rfl rfl rfl (fun _ hk => hk.elim) (H1d.out.own.turn.fresh (blk_lt H1d.out.blk)) H1d.out.own.turn.ra HB1d.out H1d.out.lt (by have := M3.out; omega) ?_
    intro v1 w2 hv hb hg hat
    obtain ⟨A4, c4, rfl⟩ := Kd.R_slice hv
    obtain ⟨hblk, hown⟩ := H1d.out.grown3 hv hg hat
    have hln : (o ++ [i]).length = o.length + 1 := by simp
    have HBK := Aside0.mk hblk
    have HOW := Aside0.mk hown
    have HB2 := Aside0.mk hb
    have HX2 : Aside0 (w2.heap[B]? = some (.cells #[.pointer (some ⟨g, 0, none⟩)] 159 (0, 0))) := ⟨(hg.block _ (blk_lt HX1.out) (Kd.R_ne H1d.out.own.rc HX1.out (by decide))).trans HX1.out⟩
    have b0b : w2.cell? ⟨B, 0, none⟩ = some (.pointer (some ⟨g, 0, none⟩)) := (blk_cell HX2.out 0).trans rfl
    have d3b : w2.cell? ⟨g, 3, none⟩ = some (.slice A3 o.length c3) := (blk_cell hblk 3).trans rfl
    clear hv hb hg hat hblk hown
    change K (Act.put _ (some 22) _) _
    refine hK.out _ _ ⟨b0b, d3b⟩ (fun hS0 => ?_)
    clear hK
    refine norm_ (a' := ?_) ?_ ?_
    rotate_left
    · simp only [Act.put, List.setIfInBounds_toArray, List.set_cons_zero, List.set_cons_succ]
      rfl
    refine pure_ (i := 8) (N := (some 23)) (v := ?_) (a' := ?_) #[true, true, true, true, true, true, true, true, true, false, false] rfl rfl (by kernel_rfl) (fun _ _ _ h => h) (Or.inl ⟨by rfl, ?_⟩) ?_ ?_
    rotate_left
    · intro w'
      go_simp
      with_reducible rfl
    rotate_left
    · simp only [Act.put, List.setIfInBounds_toArray, List.set_cons_zero, List.set_cons_succ]
      rfl
    refine pure_ (i := 9) (N := (some 24)) (v := ?_) (a' := ?_) #[true, true, true, true, true, true, true, true, true, true, false] rfl rfl (by kernel_rfl) (fun _ _ _ h => h) (Or.inl ⟨by rfl, ?_⟩) ?_ ?_
    rotate_left
    · intro w'
      go_simp
      with_reducible rfl
    rotate_left
    · simp only [Act.put, List.setIfInBounds_toArray, List.set_cons_zero, List.set_cons_succ]
      rfl
    clear hS0
    refine last_ (i := 10) (N := none) #[true, true, true, true, true, true, true, true, true, true, true] rfl rfl (by kernel_rfl) (by decide) (fun K hK => ?_)
    have e3 := (blk_cell HBK.out 3).trans rfl
    have g3 := blk_frozen HBK.out 3
    refine skip_ (w1 := w2.setCell ⟨g, 3, none⟩ (.slice A4 (o ++ [i]).length c4)) (by rfl) rfl (by go_simp) ?_
    refine hK.out _ _ ?_
    clear hK
    refine done_ (by kernel_rfl) ?_
    go_wp2
    refine bodyPost_ret (results_none rfl _ _ _) rfl ?_
    have hW := WS.put3 HBK.out H1.out.ge HOW.out
    rw [HQ.out] at hW
    have hst : st' = { stack := s, lost := l, loose := o ++ [i] } := HST.out
    refine ⟨rfl, (by rw [hst]; exact ⟨_, _, _, hW⟩), HB2.out.setCell (p := ⟨g, 3, none⟩) H1.out.ge _⟩
  | some p =>
    obtain ⟨y, es, hy, hgone⟩ := popI_split _ _ p hp
    dsimp only [Option.isSome]
    have HES := Aside0.mk es
    have HY := Aside0.mk hy
    have HGONE := Aside0.mk hgone
    clear hp es hy hgone
    go_wp2_with fail
    have HBw1 : Aside0 (Below w1.heap.size w1 w1) := ⟨Below.refl _ _⟩
    go_loopw [5, 6] (fun _ _ wr => Aside0 (IsoInv w base g B cv p y l o A3 c3 wr)) (fun _ _ wr => stackLen wr g)
    case atStart =>
      refine ⟨[], p.1, A1, A2, c1, c2, rfl, ?_, HX1.out, HB1.out⟩
      have h := H1.out
      rw [HQ.out, HES.out] at h
      simpa using h
    case round =>
      clear HX1 HB1 H1 d0 d1 d2 d3 b0 HBw1
      obtain ⟨gone, rest, A1, A2, c1, c2, hP, h1w, hX1, hB1⟩ := hrel.out
      have HP := Aside0.mk hP
      have H1 := Aside0.mk h1w
      have HX1 := Aside0.mk hX1
      have HB1 := Aside0.mk hB1
      clear hrel hP h1w hX1 hB1
      have HW0 := H1.out
      cases rest with
      | nil =>
        have hys : y ∈ s := by rw [HES.out]; simp
        obtain ⟨h0, h1⟩ := HS.out y hys
        have hpl : p.2.length ≤ 1000000 := by have := M1.out; rw [HES.out] at this; simp at this; omega
        have hy2 : ([] ++ y :: p.2).reverse = p.2.reverse ++ [y] := by simp
        rw [hy2] at H1
        obtain ⟨t, ht⟩ : ∃ t, t = p.2.reverse := ⟨_, rfl⟩
        have htl : t.length ≤ 1000000 := by rw [ht]; simpa using hpl
        rw [← ht] at H1
        have HT := Aside0.mk ht
        have HTL := Aside0.mk htl
        have e0 : ((y.toNat : Nat) : Int) = y := by omega
        clear ht htl hpl hy2 HW0 hys
        obtain ⟨d0, d1, d2, d3⟩ := H1.out.cells
        have b0 : wr.cell? ⟨B, 0, none⟩ = some (.pointer (some ⟨g, 0, none⟩)) := (blk_cell HX1.out 0).trans rfl
        go_wp2_with (first | (go_at_call 194; refine (last_some H1.out HTL.out).mono ?_; rintro e w2 ⟨rfl, hb2⟩; have H2 : Aside0 (WS w2 base g _ _ _ _ (t ++ [y]) _ o) := ⟨H1.out.below hb2⟩; have HX2 : Aside0 (w2.heap[B]? = some (.cells #[.pointer (some ⟨g, 0, none⟩)] 159 (0, 0))) := ⟨(hb2.block _ (blk_lt HX1.out)).trans HX1.out⟩; have HB2 : Aside0 (Below base w w2) := ⟨HB1.out.trans (below_to hb2 H1.out.lt)⟩; have b0 : w2.cell? ⟨B, 0, none⟩ = some (.pointer (some ⟨g, 0, none⟩)) := (blk_cell HX2.out 0).trans rfl; clear hb2 H1 HX1 HB1 d0 d1 d2 d3) | (go_at_call 195; refine (pop_c H2.out HTL.out).mono ?_; rintro e w3 ⟨rfl, vs', hw3, hb3, hk3⟩; have H3 := Aside0.mk hw3; clear hw3; have HX3 : Aside0 (w3.heap[B]? = some (.cells #[.pointer (some ⟨g, 0, none⟩)] 159 (0, 0))) := ⟨(hk3.2 B (blk_lt HX2.out) (by have := HGB.out; omega) (by simp)).trans HX2.out⟩; have HB3 : Aside0 (Below base w w3) := ⟨HB2.out.trans hb3⟩; clear hb3 hk3 H2 HX2 HB2 b0; obtain ⟨d0, d1, d2, d3⟩ := H3.out.cells; have b0 : w3.cell? ⟨B, 0, none⟩ = some (.pointer (some ⟨g, 0, none⟩)) := (blk_cell HX3.out 0).trans rfl; obtain ⟨ad, ca, rfl, hx⟩ := SLk.at_int (HC.out _ HB3.out) y h0 h1) | (go_at_call 187; refine (isolates_c _ _).mono ?_; rintro e w4 ⟨rfl, hb4⟩; rw [HY.out]; have H4 : Aside0 (WS w4 base g _ _ _ _ t _ o) := ⟨H3.out.below hb4⟩; have HB4 : Aside0 (Below base w w4) := ⟨HB3.out.trans (below_to hb4 H3.out.lt)⟩; clear hb4 H3 HB3 d0 d1 d2 d3 hx))
        refine bodyPost_ret (results_none rfl _ _ _) rfl ?_
        have hst : st' = { stack := p.2, lost := l ++ p.1, loose := o } := HST.out
        have hp1 : p.1 = gone := by have := HP.out; simpa using this
        refine ⟨rfl, ?_, HB4.out⟩
        rw [hst, hp1]
        have := H4.out
        rw [HT.out] at this
        exact ⟨_, _, _, this⟩
      | cons z rest =>
        have hzs : z ∈ s := by rw [HES.out, HP.out]; simp
        have hzg : z ∈ p.1 := by rw [HP.out]; simp
        obtain ⟨h0, h1⟩ := HS.out z hzs
        have hpl : (rest ++ y :: p.2).length + (l ++ gone).length + 1 ≤ 1000000 := by have := M2.out; rw [HES.out, HP.out] at this; simp at this ⊢; omega
        have hy2 : (z :: rest ++ y :: p.2).reverse = (rest ++ y :: p.2).reverse ++ [z] := by simp
        have HZF : Aside0 (isoB (rd cls z) = false) := ⟨HGONE.out z hzg⟩
        rw [hy2] at H1
        obtain ⟨t, ht⟩ : ∃ t, t = (rest ++ y :: p.2).reverse := ⟨_, rfl⟩
        obtain ⟨L, hL⟩ : ∃ L, L = l ++ gone := ⟨_, rfl⟩
        have htl : t.length ≤ 1000000 := by rw [ht]; simp at hpl ⊢; omega
        have hll : L.length + 1 ≤ 1000000 := by rw [hL]; omega
        have hold : wr.cell? ⟨g, 1, none⟩ = some (.slice A1 (t.length + 1) c1) := by
          have := HW0.cells.2.1
          rw [hy2, ← ht] at this
          simpa using this
        have HOLD := Aside0.mk hold
        rw [← ht, ← hL] at H1
        have HT := Aside0.mk ht
        have HTL := Aside0.mk htl
        have HLL := Aside0.mk hll
        have HLE := Aside0.mk hL
        have e0 : ((z.toNat : Nat) : Int) = z := by omega
        clear ht htl hpl hy2 HW0 hzs hzg hL hll hold
        obtain ⟨d0, d1, d2, d3⟩ := H1.out.cells
        have b0 : wr.cell? ⟨B, 0, none⟩ = some (.pointer (some ⟨g, 0, none⟩)) := (blk_cell HX1.out 0).trans rfl
        go_wp2_with (first | (go_at_call 194; refine (last_some H1.out HTL.out).mono ?_; rintro e w2 ⟨rfl, hb2⟩; have H2 : Aside0 (WS w2 base g _ _ _ _ (t ++ [z]) _ o) := ⟨H1.out.below hb2⟩; have HX2 : Aside0 (w2.heap[B]? = some (.cells #[.pointer (some ⟨g, 0, none⟩)] 159 (0, 0))) := ⟨(hb2.block _ (blk_lt HX1.out)).trans HX1.out⟩; have HB2 : Aside0 (Below base w w2) := ⟨HB1.out.trans (below_to hb2 H1.out.lt)⟩; have b0 : w2.cell? ⟨B, 0, none⟩ = some (.pointer (some ⟨g, 0, none⟩)) := (blk_cell HX2.out 0).trans rfl; clear hb2 H1 HX1 HB1 d0 d1 d2 d3) | (go_at_call 195; refine (pop_c H2.out HTL.out).mono ?_; rintro e w3 ⟨rfl, vs', hw3, hb3, hk3⟩; have H3 := Aside0.mk hw3; clear hw3; have HX3 : Aside0 (w3.heap[B]? = some (.cells #[.pointer (some ⟨g, 0, none⟩)] 159 (0, 0))) := ⟨(hk3.2 B (blk_lt HX2.out) (by have := HGB.out; omega) (by simp)).trans HX2.out⟩; have HB3 : Aside0 (Below base w w3) := ⟨HB2.out.trans hb3⟩; clear hb3 hk3 H2 HX2 HB2 b0; obtain ⟨d0, d1, d2, d3⟩ := H3.out.cells; have b0 : w3.cell? ⟨B, 0, none⟩ = some (.pointer (some ⟨g, 0, none⟩)) := (blk_cell HX3.out 0).trans rfl; obtain ⟨ad, ca, rfl, hx⟩ := SLk.at_int (HC.out _ HB3.out) z h0 h1) | (go_at_call 187; refine (isolates_c _ _).mono ?_; rintro e w4 ⟨rfl, hb4⟩; rw [HZF.out]; have H4 : Aside0 (WS w4 base g _ _ _ _ t _ o) := ⟨H3.out.below hb4⟩; have HB4 : Aside0 (Below base w w4) := ⟨HB3.out.trans (below_to hb4 H3.out.lt)⟩; have HX4 : Aside0 (w4.heap[B]? = some (.cells #[.pointer (some ⟨g, 0, none⟩)] 159 (0, 0))) := ⟨(hb4.block _ (blk_lt HX3.out)).trans HX3.out⟩; clear hb4 H3 HB3 HX3 b0 d0 d1 d2 d3 hx))
        obtain ⟨A1n, c1n, rfl⟩ := Kd.R_slice H4.out.own.ra
        obtain ⟨_, _, d2, _⟩ := H4.out.cells
        have b0 : w4.cell? ⟨B, 0, none⟩ = some (.pointer (some ⟨g, 0, none⟩)) := (blk_cell HX4.out 0).trans rfl
        have H4d : Aside0 (WS w4.drew base g _ (.slice A1n t.length c1n) (.slice A2 L.length c2) (.slice A3 o.length c3) t L o) := ⟨H4.out.below (below_drew (Below.refl _ _))⟩
        have HB4d : Aside0 (Below base w w4.drew) := ⟨HB4.out.trans (below_drew (Below.refl _ _))⟩
        refine start_ (n := 11) (S := (fun W => W.cell? ⟨B, 0, none⟩ = some (.pointer (some ⟨g, 0, none⟩)) ∧ W.cell? ⟨g, 2, none⟩ = some (.slice A2 L.length c2))) (ds := [10]) #[false, false, false, false, false, false, false, false, false, false, false] (by kernel_rfl) (by kernel_rfl) (by rfl) (⟨b0, d2⟩) (fun hS0 => ?_)
        refine take_ (i := 0) (N := (some 40)) (v := ?_) (a' := ?_) #[true, false, false, false, false, false, false, false, false, false, false] rfl rfl (by kernel_rfl) (fun _ _ _ h => h) (Or.inl ⟨by rfl, ?_⟩) hS0 ?_ ?_
        rotate_left
        · intro w' s0
          obtain ⟨hx0, hx1⟩ := s0
          go_simp
          with_reducible rfl
        rotate_left
        · simp only [Act.put, List.setIfInBounds_toArray, List.set_cons_zero, List.set_cons_succ]
          rfl
        refine take_ (i := 1) (N := (some 41)) (v := ?_) (a' := ?_) #[true, true, false, false, false, false, false, false, false, false, false] rfl rfl (by kernel_rfl) (fun _ _ _ h => h) (Or.inl ⟨by rfl, ?_⟩) hS0 ?_ ?_
        rotate_left
        · intro w' s0
          obtain ⟨hx0, hx1⟩ := s0
          go_simp
          with_reducible rfl
        rotate_left
        · simp only [Act.put, List.setIfInBounds_toArray, List.set_cons_zero, List.set_cons_succ]
          rfl
        refine pure_ (i := 2) (N := (some 42)) (v := ?_) (a' := ?_) #[true, true, true, false, false, false, false, false, false, false, false] rfl rfl (by kernel_rfl) (fun _ _ _ h => h) (Or.inl ⟨by rfl, ?_⟩) ?_ ?_
        rotate_left
        · intro w'
          go_simp
          with_reducible rfl
        rotate_left
        · simp only [Act.put, List.setIfInBounds_toArray, List.set_cons_zero, List.set_cons_succ]
          rfl
        refine pure_ (i := 3) (N := (some 43)) (v := ?_) (a' := ?_) #[true, true, true, true, false, false, false, false, false, false, false] rfl rfl (by kernel_rfl) (fun _ _ _ h => h) (Or.inl ⟨by rfl, ?_⟩) ?_ ?_
        rotate_left
        · intro w'
          go_simp
          with_reducible rfl
        rotate_left
        · simp only [Act.put, List.setIfInBounds_toArray, List.set_cons_zero, List.set_cons_succ]
          rfl
        refine take_ (i := 4) (N := (some 44)) (v := ?_) (a' := ?_) #[true, true, true, true, true, false, false, false, false, false, false] rfl rfl (by kernel_rfl) (fun _ _ _ h => h) (Or.inl ⟨by rfl, ?_⟩) hS0 ?_ ?_
        rotate_left
        · intro w' s0
          obtain ⟨hx0, hx1⟩ := s0
          go_simp
          with_reducible rfl
        rotate_left
        · simp only [Act.put, List.setIfInBounds_toArray, List.set_cons_zero, List.set_cons_succ]
          rfl
        refine pure_ (i := 5) (N := (some 45)) (v := ?_) (a' := ?_) #[true, true, true, true, true, true, false, false, false, false, false] rfl rfl (by kernel_rfl) (fun _ _ _ h => h) (Or.inl ⟨by rfl, ?_⟩) ?_ ?_
        rotate_left
        · intro w'
          go_simp
          with_reducible rfl
        rotate_left
        · simp only [Act.put, List.setIfInBounds_toArray, List.set_cons_zero, List.set_cons_succ]
          rfl
        clear hS0
        refine one_ (i := 6) (N := (some 46)) #[true, true, true, true, true, true, true, false, false, false, false] rfl rfl (by kernel_rfl) (by decide) (fun K hK => ?_)
        have b0a : (w4.drew.alloc (.cells #[.int .i64 z] 3)).cell? ⟨B, 0, none⟩ = some (.pointer (some ⟨g, 0, none⟩)) := cell_al b0 _
        have d2a : (w4.drew.alloc (.cells #[.int .i64 z] 3)).cell? ⟨g, 2, none⟩ = some (.slice A2 L.length c2) := cell_al d2 _
        refine value_ (w1 := w4.drew.alloc (.cells #[.int .i64 z] 3)) (v := .slice (some ⟨w4.drew.heap.size, 0, none⟩) 1 1) (by rfl) rfl (by go_simp) ?_
        change K (Act.put _ (some 46) _) _
        refine hK.out _ _ ⟨b0a, d2a⟩ (fun hS0 => ?_)
        clear hK
        refine norm_ (a' := ?_) ?_ ?_
        rotate_left
        · simp only [Act.put, List.setIfInBounds_toArray, List.set_cons_zero, List.set_cons_succ]
          rfl
        clear hS0
        refine one_ (i := 7) (N := (some 47)) #[true, true, true, true, true, true, true, true, false, false, false] rfl rfl (by kernel_rfl) (by decide) (fun K hK => ?_)
        refine Kd.R_append_step (Kd.int .i64) (w0 := w) base (by rfl) (.tmp 44) (.tmp 46) 22 3 (.int .i64 0) 8 rfl Try.underlying22 CSlices.info3 rfl (by decide) (by omega) (.slice A2 L.length c2) L z [.int .i64 z] (fun k => (k ≠ g ∧ some k ≠ (Value.slice A3 o.length c3).ownBlock) ∧ some k ≠ (Value.slice A1n t.length c1n).ownBlock) (fun _ => False) rfl rfl rfl (fun _ hk => hk.elim) (H4d.out.own.swap.fresh (blk_lt H4d.out.blk)) H4d.out.own.swap.ra HB4d.out H4d.out.lt (by have := HLL.out; omega) ?_
        intro v1 w5 hv hb hg hat
        obtain ⟨A4, c4, rfl⟩ := Kd.R_slice hv
        obtain ⟨hblk, hown⟩ := H4d.out.grown2 hv hg hat
        have hln : (L ++ [z]).length = L.length + 1 := by simp
        have HBK := Aside0.mk hblk
        have HOW := Aside0.mk hown
        have HB2 := Aside0.mk hb
        have HX5 : Aside0 (w5.heap[B]? = some (.cells #[.pointer (some ⟨g, 0, none⟩)] 159 (0, 0))) := ⟨(hg.block _ (blk_lt HX4.out) (Kd.R_ne H4d.out.own.rb HX4.out (by decide))).trans HX4.out⟩
        have b0b : w5.cell? ⟨B, 0, none⟩ = some (.pointer (some ⟨g, 0, none⟩)) := (blk_cell HX5.out 0).trans rfl
        have d2b : w5.cell? ⟨g, 2, none⟩ = some (.slice A2 L.length c2) := (blk_cell hblk 2).trans rfl
        clear hv hb hg hat hblk hown
        change K (Act.put _ (some 47) _) _
        refine hK.out _ _ ⟨b0b, d2b⟩ (fun hS0 => ?_)
        clear hK
        refine norm_ (a' := ?_) ?_ ?_
        rotate_left
        · simp only [Act.put, List.setIfInBounds_toArray, List.set_cons_zero, List.set_cons_succ]
          rfl
        refine pure_ (i := 8) (N := (some 48)) (v := ?_) (a' := ?_) #[true, true, true, true, true, true, true, true, true, false, false] rfl rfl (by kernel_rfl) (fun _ _ _ h => h) (Or.inl ⟨by rfl, ?_⟩) ?_ ?_
        rotate_left
        · intro w'
          go_simp
          with_reducible rfl
        rotate_left
        · simp only [Act.put, List.setIfInBounds_toArray, List.set_cons_zero, List.set_cons_succ]
          rfl
        refine pure_ (i := 9) (N := (some 49)) (v := ?_) (a' := ?_) #[true, true, true, true, true, true, true, true, true, true, false] rfl rfl (by kernel_rfl) (fun _ _ _ h => h) (Or.inl ⟨by rfl, ?_⟩) ?_ ?_
        rotate_left
        · intro w'
          go_simp
          with_reducible rfl
        rotate_left
        · simp only [Act.put, List.setIfInBounds_toArray, List.set_cons_zero, List.set_cons_succ]
          rfl
        clear hS0
        refine last_ (i := 10) (N := none) #[true, true, true, true, true, true, true, true, true, true, true] rfl rfl (by kernel_rfl) (by decide) (fun K hK => ?_)
        have e3 := (blk_cell HBK.out 2).trans rfl
        have g3 := blk_frozen HBK.out 2
        refine skip_ (w1 := w5.setCell ⟨g, 2, none⟩ (.slice A4 (L ++ [z]).length c4)) (by rfl) rfl (by go_simp) ?_
        refine hK.out _ _ ?_
        clear hK
        refine done_ (by kernel_rfl) ?_
        rw [hln]
        have hW := WS.put2 HBK.out H4.out.ge HOW.out
        rw [hln] at hW
        have HWn := Aside0.mk hW
        have HXn : Aside0 ((w5.setCell ⟨g, 2, none⟩ (.slice A4 (L.length + 1) c4)).heap[B]? = some (.cells #[.pointer (some ⟨g, 0, none⟩)] 159 (0, 0))) := ⟨(Below.heap_setCell w5 ⟨g, 2, none⟩ _ B (by have := HGB.out; show B ≠ g; omega)).trans HX5.out⟩
        have HBn : Aside0 (Below base w (w5.setCell ⟨g, 2, none⟩ (.slice A4 (L.length + 1) c4))) := ⟨HB2.out.setCell (p := ⟨g, 2, none⟩) H4.out.ge _⟩
        have HNEW : Aside0 ((w5.setCell ⟨g, 2, none⟩ (.slice A4 (L.length + 1) c4)).cell? ⟨g, 1, none⟩ = some (.slice A1n t.length c1n)) := ⟨hW.cells.2.1⟩
        clear hW hln
        have hinv : IsoInv w base g B (.slice (some ad) cls.length ca) p y l o A3 c3 (w5.setCell ⟨g, 2, none⟩ (.slice A4 (L.length + 1) c4)) := by
          refine ⟨gone ++ [z], rest, A1n, A4, c1n, c4, by rw [HP.out]; simp, ?_, HXn.out, HBn.out⟩
          have h := HWn.out
          obtain rfl := HLE.out
          obtain rfl := HT.out
          rw [← List.append_assoc, show (l ++ gone ++ [z]).length = (l ++ gone).length + 1 by simp; omega]
          exact h
        have HI := Aside0.mk hinv
        clear hinv
        go_wp2
        refine ⟨HI, ?_⟩
        rw [stackLen_eq HNEW.out, stackLen_eq HOLD.out]
        omega
end Go.Proofs.Ytfkgjoflekemaaa.CEven
/-! balance.walked: a paragraph, gone through. -/
namespace Go.Proofs.Ytfkgjoflekemaaa.CEven
open Go.RowKit Go.Shelf Go.Proofs.YtfkgjoflekemaaaW.PrintWords Go.Proofs.YtfkgjoflekemaaaW.PrintMore Go.Proofs.YtfkgjoflekemaaaW.PrintLast Go.Proofs.Ytfkgjoflekemaaa.U Go.Proofs.Ytfkgjoflekemaaa.CBase Go.Proofs.Ytfkgjoflekemaaa.UEven Go.Proofs.Ytfkgjoflekemaaa.PEmbedJoins Go.Proofs.Ytfkgjoflekemaaa.CFunc
set_option linter.unusedVariables false
set_option linter.unusedSimpArgs false
theorem walkW_snoc (cls : Int → Int) (l : List Int) : ∀ (st : UEven.W) (i : Nat) (c : Int), walkW cls st i (l ++ [c]) = stepW cls (walkW cls st i l) ((i + l.length : Nat) : Int) c := by
  induction l with
  | nil => intro st i c; rfl
  | cons x r ih =>
    intro st i c
    show walkW cls (stepW cls st i x) (i + 1) (r ++ [c]) = _
    rw [ih, show i + 1 + r.length = i + (x :: r).length by simp; omega]
    rfl
/-- the walk's first k places -/
def stAt (cls : List Int) (k : Nat) : UEven.W := walkW (rd cls) ⟨[], [], []⟩ 0 (cls.take k)
theorem stAt_succ (cls : List Int) (k : Nat) (hk : k < cls.length) : stAt cls (k + 1) = stepW (rd cls) (stAt cls k) (k : Int) cls[k] := by
  unfold stAt
  rw [List.take_succ_eq_append_getElem hk, walkW_snoc]
  congr 1
  simp; omega
structure StOk (st : UEven.W) (k : Nat) : Prop where
  idx : ∀ j ∈ st.stack, 0 ≤ j ∧ j < (k : Int)
  len : st.lost.length + st.stack.length ≤ k
  loo : st.loose.length ≤ k
theorem popI_len (k : Int → Bool) (s : List Int) (p : List Int × List Int) (h : popI k s = some p) : p.1.length + p.2.length ≤ s.length := by
  obtain ⟨y, e, _, _⟩ := popI_split k s p h
  have := congrArg List.length e
  simp at this; omega
theorem stepW_ok (cls : Int → Int) (st : UEven.W) (k : Nat) (c : Int) (h : StOk st k) : StOk (stepW cls st k c) (k + 1) := by
  have hi := h.idx
  have hl := h.len
  have ho := h.loo
  have keep : ∀ j ∈ st.stack, 0 ≤ j ∧ j < ((k + 1 : Nat) : Int) := fun j hj => by have := hi j hj; omega
  unfold stepW
  split
  · refine ⟨fun j hj => ?_, by simp; omega, by simp; omega⟩
    rcases List.mem_cons.1 hj with rfl | hj
    · omega
    · exact keep j hj
  · split
    · split
      · rename_i j s hs
        rw [hs] at hl keep
        split
        · exact ⟨fun x hx => keep x (List.mem_cons_of_mem _ hx), by simp at hl ⊢; omega, by simp; omega⟩
        · exact ⟨by rw [hs]; exact keep, by rw [hs]; simp at hl ⊢; omega, by simp; omega⟩
      · rename_i hs
        exact ⟨by rw [hs]; exact fun j hj => by simp at hj, by rw [hs]; simp at hl ⊢; rw [hs] at hl; simp at hl; omega, by simp; omega⟩
    · split
      · split
        · rename_i p hp
          have := popI_len _ _ p hp
          exact ⟨fun j hj => keep j (popI_mem _ _ p hp j hj), by simp; omega, by simp; omega⟩
        · exact ⟨keep, by simp; omega, by simp; omega⟩
      · exact ⟨keep, by omega, by omega⟩
theorem stAt_ok (cls : List Int) : ∀ k, k ≤ cls.length → StOk (stAt cls k) k := by
  intro k
  induction k with
  | zero => intro _; exact ⟨fun j hj => by simp [stAt, walkW] at hj, by simp [stAt, walkW], by simp [stAt, walkW]⟩
  | succ k ih =>
    intro h
    rw [stAt_succ cls k (by omega)]
    exact stepW_ok _ _ k _ (ih (by omega))
theorem stepW_open (cls : Int → Int) (st : UEven.W) (i c : Int) (h : (embB c || isoB c) = true) : stepW cls st i c = { st with stack := i :: st.stack } := by unfold stepW; rw [if_pos h]
set_option maxRecDepth 100000 in
set_option maxHeartbeats 4000000 in
theorem walked_c {w : World} {v : Value} {cls : List Int} (h : SL w v cls) (hm : cls.length ≤ 1000000) : Calls Try.prog 171 #[v] w fun e w' => ∃ g : Nat, e = .returned (.pointer (some ⟨g, 0, none⟩)) ∧ WT w' w.heap.size g v (stAt cls cls.length) ∧ Below w.heap.size w w' := by
  have H := Aside0.mk h
  obtain ⟨A, c, rfl, _, _⟩ := h
  go_enter Try.func171, Try.ntmps171
  go_wp2_with fail
  have H0 : Aside0 (WT (w.alloc (.cells #[.slice A cls.length c, .slice none 0 0, .slice none 0 0, .slice none 0 0] 164)) w.heap.size w.heap.size (.slice A cls.length c) (stAt cls 0)) := ⟨⟨_, _, _, blk_new w _, Nat.le_refl _, ⟨Kd.R_nil _ _ _ _ _, Kd.R_nil _ _ _ _ _, Kd.R_nil _ _ _ _ _⟩⟩⟩
  have HB0 : Aside0 (Below w.heap.size w (w.alloc (.cells #[.slice A cls.length c, .slice none 0 0, .slice none 0 0, .slice none 0 0] 164))) := ⟨below_alloc (Below.refl _ _) _⟩
  go_loopw [11] (fun v wr => ∃ k : Nat, v = .int .i64 k ∧ k ≤ cls.length ∧ Aside0 (WT wr w.heap.size w.heap.size (.slice A cls.length c) (stAt cls k)) ∧ Aside0 (Below w.heap.size w wr)) (fun v _ => cls.length - (intOf v).toNat)
  case atStart => exact ⟨0, rfl, Nat.zero_le _, H0, HB0⟩
  case round =>
    clear H0 HB0
    obtain ⟨k, rfl, hk, HW, HB⟩ := hrel
    have HC : Aside0 (∀ W, Below w.heap.size w W → SL W (.slice A cls.length c) cls) := ⟨fun W hb => SLk.below H.out hb⟩
    by_cases hlt : k < cls.length
    · obtain ⟨ad, c1, ea, hct⟩ := SLk.at_int (HC.out _ HB.out) (k : Int) (by omega) (by omega)
      injection ea with e1 e2 e3
      subst e1
      rw [rd_get hlt] at hct
      simp only [Int.toNat_natCast] at hct
      have HST := Aside0.mk (stAt_succ cls k hlt)
      have HOK := Aside0.mk (stAt_ok cls k hk)
      clear e2 e3
      obtain ⟨x, hx⟩ : ∃ x, x = cls[k] := ⟨_, rfl⟩
      rw [← hx] at hct HST
      clear hx
      obtain ⟨st, hst⟩ : ∃ st, st = stAt cls k := ⟨_, rfl⟩
      rw [← hst] at HW HST HOK
      obtain ⟨st', hst'⟩ : ∃ st', st' = stAt cls (k + 1) := ⟨_, rfl⟩
      have HSE : Aside0 (stAt cls (k + 1) = st') := ⟨hst'.symm⟩
      have HSN : Aside0 (st' = stepW (rd cls) st k x) := ⟨hst'.trans HST.out⟩
      have HI : Aside0 (∀ j ∈ st.stack, 0 ≤ j ∧ j < (cls.length : Int)) := ⟨fun j hj => by have := HOK.out.idx j hj; omega⟩
      have HL : Aside0 (st.lost.length + st.stack.length ≤ 1000000) := ⟨by have := HOK.out.len; omega⟩
      have HO : Aside0 (st.loose.length ≤ 1000000) := ⟨by have := HOK.out.loo; omega⟩
      clear hst hst' HST HOK
      obtain ⟨be, hbe⟩ : ∃ b, b = embB x := ⟨_, rfl⟩
      obtain ⟨bi, hbi⟩ : ∃ b, b = isoB x := ⟨_, rfl⟩
      have HBE := Aside0.mk hbe
      have HBI := Aside0.mk hbi
      cases be with
      | true =>
        clear hbe hbi
        go_wp2_with (first | (go_at_call 186; refine (embeds_c _ _).mono ?_; rintro e w2 ⟨rfl, hb2⟩; rw [← HBE.out]; have HW2 : Aside0 (WT w2 _ _ _ _) := ⟨HW.out.below hb2⟩; have HB2 : Aside0 (Below w.heap.size w w2) := ⟨below_step HB.out hb2⟩; clear hb2 HW HB hct; obtain ⟨vs, vl, vo, hW⟩ := HW2.out; obtain ⟨q, hq⟩ : ∃ q, q = st.stack.reverse := ⟨_, rfl⟩; rw [← hq] at hW; have HQ := Aside0.mk hq; have HQL : Aside0 (q.length ≤ 1000000) := ⟨(by have := HL.out; rw [hq, List.length_reverse]; omega)⟩; obtain ⟨A1, c1, rfl⟩ := Kd.R_slice hW.own.ra; have HV := Aside0.mk hW; clear hW hq HW2; obtain ⟨d0, d1, d2, d3⟩ := HV.out.cells) | (at_builtin; refine Kd.R_append (Kd.int .i64) (w0 := w) w.heap.size rfl (.tmp 25) (.tmp 27) 22 3 (.int .i64 0) 8 rfl Try.underlying22 CSlices.info3 rfl (by decide) (by omega) (.slice A1 q.length c1) q (k : Int) [.int .i64 k] (fun k_ => (k_ ≠ w.heap.size ∧ some k_ ≠ vo.ownBlock) ∧ some k_ ≠ vl.ownBlock) (fun _ => False) rfl rfl rfl (fun _ hk => hk.elim) (HV.out.own.fresh (blk_lt HV.out.blk)) HV.out.own.ra HB2.out HV.out.lt (by have := HQL.out; omega) ?_; intro v1 w4 hv hb hg hat; obtain ⟨A4, c4, rfl⟩ := Kd.R_slice hv; obtain ⟨hblk, hown⟩ := HV.out.grown1 hv hg hat; have hln : (q ++ [(k : Int)]).length = q.length + 1 := (by simp); rw [hln] at hown; have HBK := Aside0.mk hblk; have HOW := Aside0.mk hown; have HB4 := Aside0.mk hb; have e1 := (blk_cell hblk 1).trans rfl; have g1 := blk_frozen hblk 1; clear hv hb hg hat hblk hown hln d0 d1 d2 d3))
        exact ⟨⟨k + 1, by go_num, by omega, ⟨by
          rw [HSE.out, HSN.out, stepW_open _ _ _ _ (by rw [← HBE.out, ← HBI.out]; rfl)]
          have h := WS.put1 HBK.out HV.out.ge HOW.out
          rw [HQ.out, ← List.reverse_cons] at h
          rw [HQ.out]
          exact ⟨_, _, _, h⟩⟩, ⟨HB4.out.setCell (p := ⟨w.heap.size, 1, none⟩) (Nat.le_refl _) _⟩⟩, by simp [intOf]; omega⟩
      | false =>
        cases bi with
        | true =>
          clear hbe hbi
          go_wp2_with (first | (go_at_call 186; refine (embeds_c _ _).mono ?_; rintro e w2 ⟨rfl, hb2⟩; rw [← HBE.out]; have HW2 : Aside0 (WT w2 _ _ _ _) := ⟨HW.out.below hb2⟩; have HB2 : Aside0 (Below w.heap.size w w2) := ⟨below_step HB.out hb2⟩; clear hb2 HW HB hct) | (go_at_call 187; refine (isolates_c _ _).mono ?_; rintro e w3 ⟨rfl, hb2⟩; rw [← HBI.out]; have HW3 : Aside0 (WT w3 _ _ _ _) := ⟨HW2.out.below hb2⟩; have HB3 : Aside0 (Below w.heap.size w w3) := ⟨below_step HB2.out hb2⟩; clear hb2 HW2 HB2; obtain ⟨vs, vl, vo, hW⟩ := HW3.out; obtain ⟨q, hq⟩ : ∃ q, q = st.stack.reverse := ⟨_, rfl⟩; rw [← hq] at hW; have HQ := Aside0.mk hq; have HQL : Aside0 (q.length ≤ 1000000) := ⟨(by have := HL.out; rw [hq, List.length_reverse]; omega)⟩; obtain ⟨A1, c1, rfl⟩ := Kd.R_slice hW.own.ra; have HV := Aside0.mk hW; clear hW hq HW3; obtain ⟨d0, d1, d2, d3⟩ := HV.out.cells) | (at_builtin; refine Kd.R_append (Kd.int .i64) (w0 := w) w.heap.size rfl (.tmp 25) (.tmp 27) 22 3 (.int .i64 0) 8 rfl Try.underlying22 CSlices.info3 rfl (by decide) (by omega) (.slice A1 q.length c1) q (k : Int) [.int .i64 k] (fun k_ => (k_ ≠ w.heap.size ∧ some k_ ≠ vo.ownBlock) ∧ some k_ ≠ vl.ownBlock) (fun _ => False) rfl rfl rfl (fun _ hk => hk.elim) (HV.out.own.fresh (blk_lt HV.out.blk)) HV.out.own.ra HB3.out HV.out.lt (by have := HQL.out; omega) ?_; intro v1 w4 hv hb hg hat; obtain ⟨A4, c4, rfl⟩ := Kd.R_slice hv; obtain ⟨hblk, hown⟩ := HV.out.grown1 hv hg hat; have hln : (q ++ [(k : Int)]).length = q.length + 1 := (by simp); rw [hln] at hown; have HBK := Aside0.mk hblk; have HOW := Aside0.mk hown; have HB4 := Aside0.mk hb; have e1 := (blk_cell hblk 1).trans rfl; have g1 := blk_frozen hblk 1; clear hv hb hg hat hblk hown hln d0 d1 d2 d3))
          exact ⟨⟨k + 1, by go_num, by omega, ⟨by
            rw [HSE.out, HSN.out, stepW_open _ _ _ _ (by rw [← HBE.out, ← HBI.out]; rfl)]
            have h := WS.put1 HBK.out HV.out.ge HOW.out
            rw [HQ.out, ← List.reverse_cons] at h
            rw [HQ.out]
            exact ⟨_, _, _, h⟩⟩, ⟨HB4.out.setCell (p := ⟨w.heap.size, 1, none⟩) (Nat.le_refl _) _⟩⟩, by simp [intOf]; omega⟩
        | false =>
          by_cases h18 : x = 18
          · subst h18
            clear hbe hbi
            go_wp2_with (first | (go_at_call 186; refine (embeds_c _ _).mono ?_; rintro e w2 ⟨rfl, hb2⟩; rw [← HBE.out]; have HW2 : Aside0 (WT w2 _ _ _ _) := ⟨HW.out.below hb2⟩; have HB2 : Aside0 (Below w.heap.size w w2) := ⟨below_step HB.out hb2⟩; clear hb2 HW HB hct) | (go_at_call 187; refine (isolates_c _ _).mono ?_; rintro e w3 ⟨rfl, hb2⟩; rw [← HBI.out]; have HW3 : Aside0 (WT w3 _ _ _ _) := ⟨HW2.out.below hb2⟩; have HB3 : Aside0 (Below w.heap.size w w3) := ⟨below_step HB2.out hb2⟩; clear hb2 HW2 HB2) | (go_at_call 188; refine (endEmbed_c (cls := cls) (k : Int) (HC.out _ HB3.out) HW3.out HI.out (by have := HL.out; omega) HO.out).mono ?_; rintro e w4 ⟨rfl, hW4, hb4⟩; have HW4 := Aside0.mk hW4; have HB4 : Aside0 (Below w.heap.size w w4) := ⟨HB3.out.trans hb4⟩; clear hW4 hb4 HW3 HB3))
            exact ⟨⟨k + 1, by go_num, by omega, ⟨by rw [HSE.out, HSN.out]; exact HW4.out⟩, HB4⟩, by simp [intOf]; omega⟩
          · by_cases h22 : x = 22
            · subst h22
              clear hbe hbi
              go_wp2_with (first | (go_at_call 186; refine (embeds_c _ _).mono ?_; rintro e w2 ⟨rfl, hb2⟩; rw [← HBE.out]; have HW2 : Aside0 (WT w2 _ _ _ _) := ⟨HW.out.below hb2⟩; have HB2 : Aside0 (Below w.heap.size w w2) := ⟨below_step HB.out hb2⟩; clear hb2 HW HB hct) | (go_at_call 187; refine (isolates_c _ _).mono ?_; rintro e w3 ⟨rfl, hb2⟩; rw [← HBI.out]; have HW3 : Aside0 (WT w3 _ _ _ _) := ⟨HW2.out.below hb2⟩; have HB3 : Aside0 (Below w.heap.size w w3) := ⟨below_step HB2.out hb2⟩; clear hb2 HW2 HB2) | (go_at_call 189; refine (endIsolate_c (cls := cls) (k : Int) (fun W hb => HC.out W (HB3.out.trans hb)) HW3.out HI.out (by have := HL.out; omega) HL.out HO.out).mono ?_; rintro e w4 ⟨rfl, hW4, hb4⟩; have HW4 := Aside0.mk hW4; have HB4 : Aside0 (Below w.heap.size w w4) := ⟨HB3.out.trans hb4⟩; clear hW4 hb4 HW3 HB3))
              exact ⟨⟨k + 1, by go_num, by omega, ⟨by rw [HSE.out, HSN.out]; exact HW4.out⟩, HB4⟩, by simp [intOf]; omega⟩
            · have hid : stepW (rd cls) st k x = st := by
                unfold stepW
                rw [← hbe, ← hbi]
                simp [h18, h22]
              have HID := Aside0.mk hid
              clear hbe hbi hid
              go_wp2_with (first | (go_at_call 186; refine (embeds_c _ _).mono ?_; rintro e w2 ⟨rfl, hb2⟩; rw [← HBE.out]; have HW2 : Aside0 (WT w2 _ _ _ _) := ⟨HW.out.below hb2⟩; have HB2 : Aside0 (Below w.heap.size w w2) := ⟨below_step HB.out hb2⟩; clear hb2 HW HB hct) | (go_at_call 187; refine (isolates_c _ _).mono ?_; rintro e w3 ⟨rfl, hb2⟩; rw [← HBI.out]; have HW3 : Aside0 (WT w3 _ _ _ _) := ⟨HW2.out.below hb2⟩; have HB3 : Aside0 (Below w.heap.size w w3) := ⟨below_step HB2.out hb2⟩; clear hb2 HW2 HB2))
              exact ⟨⟨k + 1, by go_num, by omega, ⟨by rw [HSE.out, HSN.out, HID.out]; exact HW3.out⟩, HB3⟩, by simp [intOf]; omega⟩
    · have ek : k = cls.length := by omega
      subst ek
      go_wp2
      go_ret
      exact ⟨w.heap.size, rfl, HW.out, HB.out⟩
end Go.Proofs.Ytfkgjoflekemaaa.CEven
