/- Texts of this claim, cut to what it needs. -/
import Derived.Test.YtohhobcipfmkbaaKCCells4
import Derived.Test.YtohhobcipfmkbaaKCFinQ
import Derived.Test.YtohhobcipfmkbaaKCFin3
import Derived.Test.YtohhobcipfmkbaaKCCells1
set_option linter.unusedSimpArgs false
set_option linter.unusedVariables false
section
namespace Go.Proofs.Ytohhobcipfmkbaa.Cel
open Go.RowKit Go.Proofs.YtohhobcipfmkbaaW.PrintWords Go.Proofs.YtohhobcipfmkbaaW.PrintMore Go.Proofs.YtohhobcipfmkbaaW.PrintLast Go.Proofs.Ytohhobcipfmkbaa.U Go.Proofs.Ytohhobcipfmkbaa.PClusterFinest Go.Proofs.Ytohhobcipfmkbaa.UGroups Go.Proofs.Ytohhobcipfmkbaa.UFinEv
open Go.Proofs.Ytohhobcipfmkbaa.CFin (rd33 info33 cells33 one33)
theorem Parts.join {T b c : Nat} {w W W2 : World} {D Dr Dt : Nat → Prop} {A : Option Addr} {vt v1 : Value} {L : List (List Int)} {J : List S33} {s : S33} (h : Parts T w D Dr Dt b A c vt L J) (hw : Below w.heap.size w W) (hg : W.grownBy W2 vt.ownBlock) (hv : Kd.R k33 33 W2 0 (fun q => Dt q ∨ w.heap.size ≤ q) v1 (J ++ [s])) :
 CellsAt T (W2.setCell ⟨b, 1, none⟩ v1) (fun q => D q ∨ w.heap.size ≤ q) b L (J ++ [s]) ∧ Eff w (W2.setCell ⟨b, 1, none⟩ v1) D := by
 have h' := h.below hw
 have hb0 : b < w.heap.size := blk_lt h.h1
 have hown : ∀ k, vt.ownBlock = some k → Dt k := h.h3.1
 have hbe : ∀ k, vt.ownBlock = some k → b ≠ k := fun k hk e => (h.ht k (hown k hk)).2.1 e.symm
 have h1 : W2.heap[b]? = some (.cells #[.slice A L.length c, vt] T (0, 0)) := by
  refine (hg.block b (blk_lt h'.h1) (fun e => ?_)).trans h'.h1
  exact hbe b e.symm rfl
 have hrow : RowAt W2 Dr (.slice A L.length c) L := by
  refine h'.h2.kept (S := fun q => vt.ownBlock = some q) (Kept.of_grown hg (Kept.refl _ _) (fun k hk => .inl hk)) (fun k hk hs => ?_)
  exact (h.ht k (hown k hs)).2.2.1 hk
 have hset := grown_set W2 b 1 v1
 refine ⟨⟨fun q => Dr q, fun q => Dt q ∨ w.heap.size ≤ q, _, v1, fun k hk => ⟨.inl (h.hr k hk).1, (h.hr k hk).2.1⟩, fun k hk => ?_, .inl h.h0, blk_put h1 1 v1 rfl, ?_, ?_⟩, ?_⟩
 ·rcases hk with hk | hk
  ·exact ⟨.inl (h.ht k hk).1, (h.ht k hk).2.1, (h.ht k hk).2.2.1⟩
  ·exact ⟨.inr hk, by omega, fun hr => by have := (h.hr k hr).2.2; omega⟩
 ·exact hrow.kept (S := fun q => q = b) (Kept.of_grown hset (Kept.refl _ _) (fun k hk => .inl (Option.some.inj hk).symm)) (fun k hk e => (h.hr k hk).2.1 e)
 ·refine Kd.R_kept hv (S := fun q => q = b) (Kept.of_grown hset (Kept.refl _ _) (fun k hk => .inl (Option.some.inj hk).symm)) (fun k hk e => ?_)
  rcases hk with hk | hk
  ·exact (h.ht k hk).2.1 e
  ·omega
 ·refine (Eff.of_below hw D).then_ (S2 := fun q => q = b ∨ vt.ownBlock = some q) ((Eff.of_grown (S := fun q => q = b ∨ vt.ownBlock = some q) hg (fun q e => .inr e)).then_ (Eff.of_grown (S := fun q => q = b) hset (fun q e => (Option.some.inj e).symm)) (fun q e => .inl (.inl e))) (fun q e => ?_)
  rcases e with e | e
  ·rw [e]; exact .inl h.h0
  ·exact .inl (h.ht q (hown q e)).1
set_option maxRecDepth 100000 in
set_option maxHeartbeats 4000000 in
theorem join_bad {w : World} {D : Nat → Prop} {b : Nat} {L : List (List Int)} {J : List S33} (h : CellsAt 51 w D b L J) (lo hi : Int) (hno : ¬ (0 ≤ lo ∧ lo < hi ∧ hi ≤ (L.length : Int))) :
 Calls Try.prog 27 #[ptr b, .agg #[.int .i64 lo, .int .i64 hi]] w fun e w' => e = .returned (.int .i64 1) ∧ Below w.heap.size w w' := by
 obtain ⟨Dr, Dt, A, c, vt, hp⟩ := h.open_
 obtain ⟨At, ct, evt⟩ := Kd.R_slice hp.h3
 subst evt
 have HP := Aside0.mk hp
 clear h hp
 go_enter Try.func27, Try.ntmps27
 go_upto_region 1 with (first | ((with_reducible refine gate_dst (N := 3) rfl ?_); refine box_event ?hg (N := 3) ?hd (cs := #[.int .i64 lo, .int .i64 hi]) (t := 33) ?hr ?_; (case hd => rfl); (case hg => rfl); (case hr => first | (go_simp; done) | (go_simp; rfl)); intro gb hg w1 hbox hb; have HX := Aside0.mk hbox; have HB1 := Aside0.mk hb; have HP1 := Aside0.mk (HP.out.below hb); clear hg hbox hb))
 have x0 := (blk_cell HX.out 0).trans rfl
 have x1 := (blk_cell HX.out 1).trans rfl
 have c0 := (blk_cell HP1.out.h1 0).trans rfl
 by_cases hrt : 0 ≤ lo ∧ lo < hi
 ·have HRB : Aside0 (decide (0 ≤ lo ∧ lo < hi) = true) := ⟨decide_eq_true hrt⟩
  have hhi : (L.length : Int) < hi := by omega
  clear hrt hno
  have HBD : Aside0 (Below w1.heap.size w1 w1.drew) := ⟨below_drew (Below.refl _ _)⟩
  refine start_ (n := 17) (S := (fun W => Below w1.heap.size w1 W)) (ds := []) #[false, false, false, false, false, false, false, false, false, false, false, false, false, false, false, false, false] (by kernel_rfl) (by kernel_rfl) (by rfl) HBD.out (fun hS0 => ?_)
  refine pure_ (i := 0) (N := (some 5)) (v := ?_) (a' := ?_) #[true, false, false, false, false, false, false, false, false, false, false, false, false, false, false, false, false] rfl rfl (by kernel_rfl) (fun _ _ _ h => h) (Or.inl ⟨by rfl, ?_⟩) ?_ ?_
  rotate_left
  ·intro w'
   go_simp
   with_reducible rfl
  rotate_left
  ·simp only [Act.put, List.setIfInBounds_toArray, List.set_cons_zero, List.set_cons_succ]
   rfl
  refine pure_ (i := 1) (N := (some 6)) (v := ?_) (a' := ?_) #[true, true, false, false, false, false, false, false, false, false, false, false, false, false, false, false, false] rfl rfl (by kernel_rfl) (fun _ _ _ h => h) (Or.inl ⟨by rfl, ?_⟩) ?_ ?_
  rotate_left
  ·intro w'
   go_simp
   with_reducible rfl
  rotate_left
  ·simp only [Act.put, List.setIfInBounds_toArray, List.set_cons_zero, List.set_cons_succ]
   rfl
  refine pure_ (i := 2) (N := (some 7)) (v := ?_) (a' := ?_) #[true, true, true, false, false, false, false, false, false, false, false, false, false, false, false, false, false] rfl rfl (by kernel_rfl) (fun _ _ _ h => h) (Or.inl ⟨by rfl, ?_⟩) ?_ ?_
  rotate_left
  ·intro w'
   go_simp
   with_reducible rfl
  rotate_left
  ·simp only [Act.put, List.setIfInBounds_toArray, List.set_cons_zero, List.set_cons_succ]
   rfl
  refine take_ (i := 3) (N := (some 8)) (v := ?_) (a' := ?_) #[true, true, true, true, false, false, false, false, false, false, false, false, false, false, false, false, false] rfl rfl (by kernel_rfl) (fun _ _ _ h => h) (Or.inl ⟨by rfl, ?_⟩) hS0 ?_ ?_
  rotate_left
  ·intro w' s0
   have hx0 := (s0.cell (World.block_lt_of_cell? _ _ x0)).trans x0
   have hx1 := (s0.cell (World.block_lt_of_cell? _ _ x1)).trans x1
   go_simp
   with_reducible rfl
  rotate_left
  ·simp only [Act.put, List.setIfInBounds_toArray, List.set_cons_zero, List.set_cons_succ]
   rfl
  clear hS0
  refine one_ (i := 4) (N := (some 9)) #[true, true, true, true, true, false, false, false, false, false, false, false, false, false, false, false, false] rfl rfl (by kernel_rfl) (by decide) (fun K hK => ?_)
  refine goes_ Try.func50 (by kernel_rfl) rfl #[.agg #[.int .i64 lo, .int .i64 hi]] (by rfl) rfl rfl (by go_simp; done) ?_
  refine (span_Right.calls lo hi _ _ (right_is3 lo hi)).mono ?_
  rintro e w2 ⟨rfl, hb2⟩
  rw [HRB.out]
  refine ⟨_, rfl, ?_⟩
  have HB2 : Aside0 (Below w1.heap.size w1 w2) := ⟨below_step HBD.out hb2⟩
  clear hb2
  change K (Act.put _ (some 9) _) _
  refine hK.out _ _ HB2.out (fun hS0 => ?_)
  clear hK
  refine norm_ (a' := ?_) ?_ ?_
  rotate_left
  ·simp only [Act.put, List.setIfInBounds_toArray, List.set_cons_zero, List.set_cons_succ]
   rfl
  refine pure_ (i := 5) (N := (some 10)) (v := ?_) (a' := ?_) #[true, true, true, true, true, true, false, false, false, false, false, false, false, false, false, false, false] rfl rfl (by kernel_rfl) (fun _ _ _ h => h) (Or.inl ⟨by rfl, ?_⟩) ?_ ?_
  rotate_left
  ·intro w'
   go_simp
   with_reducible rfl
  rotate_left
  ·simp only [Act.put, List.setIfInBounds_toArray, List.set_cons_zero, List.set_cons_succ]
   rfl
  refine pure_ (i := 6) (N := (some 11)) (v := ?_) (a' := ?_) #[true, true, true, true, true, true, true, false, false, false, false, false, false, false, false, false, false] rfl rfl (by kernel_rfl) (fun _ _ _ h => h) (Or.inl ⟨by rfl, ?_⟩) ?_ ?_
  rotate_left
  ·intro w'
   go_simp
   with_reducible rfl
  rotate_left
  ·simp only [Act.put, List.setIfInBounds_toArray, List.set_cons_zero, List.set_cons_succ]
   rfl
  refine pure_ (i := 7) (N := (some 12)) (v := ?_) (a' := ?_) #[true, true, true, true, true, true, true, true, false, false, false, false, false, false, false, false, false] rfl rfl (by kernel_rfl) (fun _ _ _ h => h) (Or.inl ⟨by rfl, ?_⟩) ?_ ?_
  rotate_left
  ·intro w'
   go_simp
   with_reducible rfl
  rotate_left
  ·simp only [Act.put, List.setIfInBounds_toArray, List.set_cons_zero, List.set_cons_succ]
   rfl
  refine pure_ (i := 8) (N := (some 13)) (v := ?_) (a' := ?_) #[true, true, true, true, true, true, true, true, true, false, false, false, false, false, false, false, false] rfl rfl (by kernel_rfl) (fun _ _ _ h => h) (Or.inl ⟨by rfl, ?_⟩) ?_ ?_
  rotate_left
  ·intro w'
   go_simp
   with_reducible rfl
  rotate_left
  ·simp only [Act.put, List.setIfInBounds_toArray, List.set_cons_zero, List.set_cons_succ]
   rfl
  refine take_ (i := 9) (N := (some 14)) (v := ?_) (a' := ?_) #[true, true, true, true, true, true, true, true, true, true, false, false, false, false, false, false, false] rfl rfl (by kernel_rfl) (fun _ _ _ h => h) (Or.inl ⟨by rfl, ?_⟩) hS0 ?_ ?_
  rotate_left
  ·intro w' s0
   have hx1 := (s0.cell (World.block_lt_of_cell? _ _ x1)).trans x1
   go_simp
   with_reducible rfl
  rotate_left
  ·simp only [Act.put, List.setIfInBounds_toArray, List.set_cons_zero, List.set_cons_succ]
   rfl
  refine pure_ (i := 10) (N := (some 15)) (v := ?_) (a' := ?_) #[true, true, true, true, true, true, true, true, true, true, true, false, false, false, false, false, false] rfl rfl (by kernel_rfl) (fun _ _ _ h => h) (Or.inl ⟨by rfl, ?_⟩) ?_ ?_
  rotate_left
  ·intro w'
   go_simp
   with_reducible rfl
  rotate_left
  ·simp only [Act.put, List.setIfInBounds_toArray, List.set_cons_zero, List.set_cons_succ]
   rfl
  refine pure_ (i := 11) (N := (some 16)) (v := ?_) (a' := ?_) #[true, true, true, true, true, true, true, true, true, true, true, true, false, false, false, false, false] rfl rfl (by kernel_rfl) (fun _ _ _ h => h) (Or.inl ⟨by rfl, ?_⟩) ?_ ?_
  rotate_left
  ·intro w'
   go_simp
   with_reducible rfl
  rotate_left
  ·simp only [Act.put, List.setIfInBounds_toArray, List.set_cons_zero, List.set_cons_succ]
   rfl
  refine pure_ (i := 12) (N := (some 17)) (v := ?_) (a' := ?_) #[true, true, true, true, true, true, true, true, true, true, true, true, true, false, false, false, false] rfl rfl (by kernel_rfl) (fun _ _ _ h => h) (Or.inl ⟨by rfl, ?_⟩) ?_ ?_
  rotate_left
  ·intro w'
   go_simp
   with_reducible rfl
  rotate_left
  ·simp only [Act.put, List.setIfInBounds_toArray, List.set_cons_zero, List.set_cons_succ]
   rfl
  refine take_ (i := 13) (N := (some 18)) (v := ?_) (a' := ?_) #[true, true, true, true, true, true, true, true, true, true, true, true, true, true, false, false, false] rfl rfl (by kernel_rfl) (fun _ _ _ h => h) (Or.inl ⟨by rfl, ?_⟩) hS0 ?_ ?_
  rotate_left
  ·intro w' s0
   have hx0 := (s0.cell (World.block_lt_of_cell? _ _ c0)).trans c0
   go_simp
   with_reducible rfl
  rotate_left
  ·simp only [Act.put, List.setIfInBounds_toArray, List.set_cons_zero, List.set_cons_succ]
   rfl
  refine pure_ (i := 14) (N := (some 19)) (v := ?_) (a' := ?_) #[true, true, true, true, true, true, true, true, true, true, true, true, true, true, true, false, false] rfl rfl (by kernel_rfl) (fun _ _ _ h => h) (Or.inl ⟨by rfl, ?_⟩) ?_ ?_
  rotate_left
  ·intro w'
   go_simp
   with_reducible rfl
  rotate_left
  ·simp only [Act.put, List.setIfInBounds_toArray, List.set_cons_zero, List.set_cons_succ]
   rfl
  refine pure_ (i := 15) (N := (some 20)) (v := ?_) (a' := ?_) #[true, true, true, true, true, true, true, true, true, true, true, true, true, true, true, true, false] rfl rfl (by kernel_rfl) (fun _ _ _ h => h) (Or.inl ⟨by rfl, ?_⟩) ?_ ?_
  rotate_left
  ·intro w'
   go_simp
   with_reducible rfl
  rotate_left
  ·simp only [Act.put, List.setIfInBounds_toArray, List.set_cons_zero, List.set_cons_succ]
   rfl
  refine pure_ (i := 16) (N := (some 21)) (v := ?_) (a' := ?_) #[true, true, true, true, true, true, true, true, true, true, true, true, true, true, true, true, true] rfl rfl (by kernel_rfl) (fun _ _ _ h => h) (Or.inl ⟨by rfl, ?_⟩) ?_ ?_
  rotate_left
  ·intro w'
   go_simp
   with_reducible rfl
  rotate_left
  ·simp only [Act.put, List.setIfInBounds_toArray, List.set_cons_zero, List.set_cons_succ]
   rfl
  refine done_ (by kernel_rfl) ?_
  go_wp2
  go_ret
  exact ⟨rfl, below_step HB1.out HB2.out⟩
 ·have HRB : Aside0 (decide (0 ≤ lo ∧ lo < hi) = false) := ⟨decide_eq_false hrt⟩
  clear hrt hno
  have HBD : Aside0 (Below w1.heap.size w1 w1.drew) := ⟨below_drew (Below.refl _ _)⟩
  refine start_ (n := 17) (S := (fun W => Below w1.heap.size w1 W)) (ds := []) #[false, false, false, false, false, false, false, false, false, false, false, false, false, false, false, false, false] (by kernel_rfl) (by kernel_rfl) (by rfl) HBD.out (fun hS0 => ?_)
  refine pure_ (i := 0) (N := (some 5)) (v := ?_) (a' := ?_) #[true, false, false, false, false, false, false, false, false, false, false, false, false, false, false, false, false] rfl rfl (by kernel_rfl) (fun _ _ _ h => h) (Or.inl ⟨by rfl, ?_⟩) ?_ ?_
  rotate_left
  ·intro w'
   go_simp
   with_reducible rfl
  rotate_left
  ·simp only [Act.put, List.setIfInBounds_toArray, List.set_cons_zero, List.set_cons_succ]
   rfl
  refine pure_ (i := 1) (N := (some 6)) (v := ?_) (a' := ?_) #[true, true, false, false, false, false, false, false, false, false, false, false, false, false, false, false, false] rfl rfl (by kernel_rfl) (fun _ _ _ h => h) (Or.inl ⟨by rfl, ?_⟩) ?_ ?_
  rotate_left
  ·intro w'
   go_simp
   with_reducible rfl
  rotate_left
  ·simp only [Act.put, List.setIfInBounds_toArray, List.set_cons_zero, List.set_cons_succ]
   rfl
  refine pure_ (i := 2) (N := (some 7)) (v := ?_) (a' := ?_) #[true, true, true, false, false, false, false, false, false, false, false, false, false, false, false, false, false] rfl rfl (by kernel_rfl) (fun _ _ _ h => h) (Or.inl ⟨by rfl, ?_⟩) ?_ ?_
  rotate_left
  ·intro w'
   go_simp
   with_reducible rfl
  rotate_left
  ·simp only [Act.put, List.setIfInBounds_toArray, List.set_cons_zero, List.set_cons_succ]
   rfl
  refine take_ (i := 3) (N := (some 8)) (v := ?_) (a' := ?_) #[true, true, true, true, false, false, false, false, false, false, false, false, false, false, false, false, false] rfl rfl (by kernel_rfl) (fun _ _ _ h => h) (Or.inl ⟨by rfl, ?_⟩) hS0 ?_ ?_
  rotate_left
  ·intro w' s0
   have hx0 := (s0.cell (World.block_lt_of_cell? _ _ x0)).trans x0
   have hx1 := (s0.cell (World.block_lt_of_cell? _ _ x1)).trans x1
   go_simp
   with_reducible rfl
  rotate_left
  ·simp only [Act.put, List.setIfInBounds_toArray, List.set_cons_zero, List.set_cons_succ]
   rfl
  clear hS0
  refine one_ (i := 4) (N := (some 9)) #[true, true, true, true, true, false, false, false, false, false, false, false, false, false, false, false, false] rfl rfl (by kernel_rfl) (by decide) (fun K hK => ?_)
  refine goes_ Try.func50 (by kernel_rfl) rfl #[.agg #[.int .i64 lo, .int .i64 hi]] (by rfl) rfl rfl (by go_simp; done) ?_
  refine (span_Right.calls lo hi _ _ (right_is3 lo hi)).mono ?_
  rintro e w2 ⟨rfl, hb2⟩
  rw [HRB.out]
  refine ⟨_, rfl, ?_⟩
  have HB2 : Aside0 (Below w1.heap.size w1 w2) := ⟨below_step HBD.out hb2⟩
  clear hb2
  change K (Act.put _ (some 9) _) _
  refine hK.out _ _ HB2.out (fun hS0 => ?_)
  clear hK
  refine norm_ (a' := ?_) ?_ ?_
  rotate_left
  ·simp only [Act.put, List.setIfInBounds_toArray, List.set_cons_zero, List.set_cons_succ]
   rfl
  refine pure_ (i := 5) (N := (some 10)) (v := ?_) (a' := ?_) #[true, true, true, true, true, true, false, false, false, false, false, false, false, false, false, false, false] rfl rfl (by kernel_rfl) (fun _ _ _ h => h) (Or.inl ⟨by rfl, ?_⟩) ?_ ?_
  rotate_left
  ·intro w'
   go_simp
   with_reducible rfl
  rotate_left
  ·simp only [Act.put, List.setIfInBounds_toArray, List.set_cons_zero, List.set_cons_succ]
   rfl
  refine pure_ (i := 6) (N := (some 11)) (v := ?_) (a' := ?_) #[true, true, true, true, true, true, true, false, false, false, false, false, false, false, false, false, false] rfl rfl (by kernel_rfl) (fun _ _ _ h => h) (Or.inl ⟨by rfl, ?_⟩) ?_ ?_
  rotate_left
  ·intro w'
   go_simp
   with_reducible rfl
  rotate_left
  ·simp only [Act.put, List.setIfInBounds_toArray, List.set_cons_zero, List.set_cons_succ]
   rfl
  refine pure_ (i := 7) (N := (some 12)) (v := ?_) (a' := ?_) #[true, true, true, true, true, true, true, true, false, false, false, false, false, false, false, false, false] rfl rfl (by kernel_rfl) (fun _ _ _ h => h) (Or.inl ⟨by rfl, ?_⟩) ?_ ?_
  rotate_left
  ·intro w'
   go_simp
   with_reducible rfl
  rotate_left
  ·simp only [Act.put, List.setIfInBounds_toArray, List.set_cons_zero, List.set_cons_succ]
   rfl
  refine pure_ (i := 8) (N := (some 13)) (v := undef) (a' := ?_) #[true, true, true, true, true, true, true, true, true, false, false, false, false, false, false, false, false] rfl rfl (by kernel_rfl) (fun _ _ _ h => h) (Or.inr ⟨by rfl, rfl⟩) ?_ ?_
  rotate_left
  ·simp only [Act.put, List.setIfInBounds_toArray, List.set_cons_zero, List.set_cons_succ]
   rfl
  refine pure_ (i := 9) (N := (some 14)) (v := undef) (a' := ?_) #[true, true, true, true, true, true, true, true, true, true, false, false, false, false, false, false, false] rfl rfl (by kernel_rfl) (fun _ _ _ h => h) (Or.inr ⟨by rfl, rfl⟩) ?_ ?_
  rotate_left
  ·simp only [Act.put, List.setIfInBounds_toArray, List.set_cons_zero, List.set_cons_succ]
   rfl
  refine pure_ (i := 10) (N := (some 15)) (v := undef) (a' := ?_) #[true, true, true, true, true, true, true, true, true, true, true, false, false, false, false, false, false] rfl rfl (by kernel_rfl) (fun _ _ _ h => h) (Or.inr ⟨by rfl, rfl⟩) ?_ ?_
  rotate_left
  ·simp only [Act.put, List.setIfInBounds_toArray, List.set_cons_zero, List.set_cons_succ]
   rfl
  refine pure_ (i := 11) (N := (some 16)) (v := undef) (a' := ?_) #[true, true, true, true, true, true, true, true, true, true, true, true, false, false, false, false, false] rfl rfl (by kernel_rfl) (fun _ _ _ h => h) (Or.inr ⟨by rfl, rfl⟩) ?_ ?_
  rotate_left
  ·simp only [Act.put, List.setIfInBounds_toArray, List.set_cons_zero, List.set_cons_succ]
   rfl
  refine pure_ (i := 12) (N := (some 17)) (v := undef) (a' := ?_) #[true, true, true, true, true, true, true, true, true, true, true, true, true, false, false, false, false] rfl rfl (by kernel_rfl) (fun _ _ _ h => h) (Or.inr ⟨by rfl, rfl⟩) ?_ ?_
  rotate_left
  ·simp only [Act.put, List.setIfInBounds_toArray, List.set_cons_zero, List.set_cons_succ]
   rfl
  refine pure_ (i := 13) (N := (some 18)) (v := undef) (a' := ?_) #[true, true, true, true, true, true, true, true, true, true, true, true, true, true, false, false, false] rfl rfl (by kernel_rfl) (fun _ _ _ h => h) (Or.inr ⟨by rfl, rfl⟩) ?_ ?_
  rotate_left
  ·simp only [Act.put, List.setIfInBounds_toArray, List.set_cons_zero, List.set_cons_succ]
   rfl
  refine pure_ (i := 14) (N := (some 19)) (v := undef) (a' := ?_) #[true, true, true, true, true, true, true, true, true, true, true, true, true, true, true, false, false] rfl rfl (by kernel_rfl) (fun _ _ _ h => h) (Or.inr ⟨by rfl, rfl⟩) ?_ ?_
  rotate_left
  ·simp only [Act.put, List.setIfInBounds_toArray, List.set_cons_zero, List.set_cons_succ]
   rfl
  refine pure_ (i := 15) (N := (some 20)) (v := undef) (a' := ?_) #[true, true, true, true, true, true, true, true, true, true, true, true, true, true, true, true, false] rfl rfl (by kernel_rfl) (fun _ _ _ h => h) (Or.inr ⟨by rfl, rfl⟩) ?_ ?_
  rotate_left
  ·simp only [Act.put, List.setIfInBounds_toArray, List.set_cons_zero, List.set_cons_succ]
   rfl
  refine pure_ (i := 16) (N := (some 21)) (v := ?_) (a' := ?_) #[true, true, true, true, true, true, true, true, true, true, true, true, true, true, true, true, true] rfl rfl (by kernel_rfl) (fun _ _ _ h => h) (Or.inl ⟨by rfl, ?_⟩) ?_ ?_
  rotate_left
  ·intro w'
   go_simp
   with_reducible rfl
  rotate_left
  ·simp only [Act.put, List.setIfInBounds_toArray, List.set_cons_zero, List.set_cons_succ]
   rfl
  refine done_ (by kernel_rfl) ?_
  go_wp2
  go_ret
  exact ⟨rfl, below_step HB1.out HB2.out⟩
set_option maxRecDepth 100000 in
set_option maxHeartbeats 4000000 in
theorem join_c {w : World} {D : Nat → Prop} {b : Nat} {L : List (List Int)} {J : List S33} (h : CellsAt 51 w D b L J) (hJ : J.length ≤ 1000000) (lo hi : Int) (h0 : 0 ≤ lo) (h1 : lo < hi) (h2 : hi ≤ (L.length : Int)) :
 Calls Try.prog 27 #[ptr b, .agg #[.int .i64 lo, .int .i64 hi]] w fun e w' => e = .returned (.int .i64 0) ∧ CellsAt 51 w' (fun q => D q ∨ w.heap.size ≤ q) b L (J ++ [⟨lo, hi⟩]) ∧ Eff w w' D := by
 obtain ⟨Dr, Dt, A, c, vt, hp⟩ := h.open_
 obtain ⟨At, ct, evt⟩ := Kd.R_slice hp.h3
 subst evt
 have HP := Aside0.mk hp
 clear h hp
 have HJ := Aside0.mk hJ
 go_enter Try.func27, Try.ntmps27
 go_upto_region 1 with (first | ((with_reducible refine gate_dst (N := 3) rfl ?_); refine box_event ?hg (N := 3) ?hd (cs := #[.int .i64 lo, .int .i64 hi]) (t := 33) ?hr ?_; (case hd => rfl); (case hg => rfl); (case hr => first | (go_simp; done) | (go_simp; rfl)); intro gb hg w1 hbox hb; have HX := Aside0.mk hbox; have HB1 := Aside0.mk hb; have HP1 := Aside0.mk (HP.out.below hb); clear hg hbox hb))
 have x0 := (blk_cell HX.out 0).trans rfl
 have x1 := (blk_cell HX.out 1).trans rfl
 have c0 := (blk_cell HP1.out.h1 0).trans rfl
 have HRB : Aside0 (decide (0 ≤ lo ∧ lo < hi) = true) := ⟨decide_eq_true ⟨h0, h1⟩⟩
 have hhi : ¬ (L.length : Int) < hi := by omega
 clear h0 h1 hJ
 have HBD : Aside0 (Below w1.heap.size w1 w1.drew) := ⟨below_drew (Below.refl _ _)⟩
 refine start_ (n := 17) (S := (fun W => Below w1.heap.size w1 W)) (ds := []) #[false, false, false, false, false, false, false, false, false, false, false, false, false, false, false, false, false] (by kernel_rfl) (by kernel_rfl) (by rfl) HBD.out (fun hS0 => ?_)
 refine pure_ (i := 0) (N := (some 5)) (v := ?_) (a' := ?_) #[true, false, false, false, false, false, false, false, false, false, false, false, false, false, false, false, false] rfl rfl (by kernel_rfl) (fun _ _ _ h => h) (Or.inl ⟨by rfl, ?_⟩) ?_ ?_
 rotate_left
 ·intro w'
  go_simp
  with_reducible rfl
 rotate_left
 ·simp only [Act.put, List.setIfInBounds_toArray, List.set_cons_zero, List.set_cons_succ]
  rfl
 refine pure_ (i := 1) (N := (some 6)) (v := ?_) (a' := ?_) #[true, true, false, false, false, false, false, false, false, false, false, false, false, false, false, false, false] rfl rfl (by kernel_rfl) (fun _ _ _ h => h) (Or.inl ⟨by rfl, ?_⟩) ?_ ?_
 rotate_left
 ·intro w'
  go_simp
  with_reducible rfl
 rotate_left
 ·simp only [Act.put, List.setIfInBounds_toArray, List.set_cons_zero, List.set_cons_succ]
  rfl
 refine pure_ (i := 2) (N := (some 7)) (v := ?_) (a' := ?_) #[true, true, true, false, false, false, false, false, false, false, false, false, false, false, false, false, false] rfl rfl (by kernel_rfl) (fun _ _ _ h => h) (Or.inl ⟨by rfl, ?_⟩) ?_ ?_
 rotate_left
 ·intro w'
  go_simp
  with_reducible rfl
 rotate_left
 ·simp only [Act.put, List.setIfInBounds_toArray, List.set_cons_zero, List.set_cons_succ]
  rfl
 refine take_ (i := 3) (N := (some 8)) (v := ?_) (a' := ?_) #[true, true, true, true, false, false, false, false, false, false, false, false, false, false, false, false, false] rfl rfl (by kernel_rfl) (fun _ _ _ h => h) (Or.inl ⟨by rfl, ?_⟩) hS0 ?_ ?_
 rotate_left
 ·intro w' s0
  have hx0 := (s0.cell (World.block_lt_of_cell? _ _ x0)).trans x0
  have hx1 := (s0.cell (World.block_lt_of_cell? _ _ x1)).trans x1
  go_simp
  with_reducible rfl
 rotate_left
 ·simp only [Act.put, List.setIfInBounds_toArray, List.set_cons_zero, List.set_cons_succ]
  rfl
 clear hS0
 refine one_ (i := 4) (N := (some 9)) #[true, true, true, true, true, false, false, false, false, false, false, false, false, false, false, false, false] rfl rfl (by kernel_rfl) (by decide) (fun K hK => ?_)
 refine goes_ Try.func50 (by kernel_rfl) rfl #[.agg #[.int .i64 lo, .int .i64 hi]] (by rfl) rfl rfl (by go_simp; done) ?_
 refine (span_Right.calls lo hi _ _ (right_is3 lo hi)).mono ?_
 rintro e w2 ⟨rfl, hb2⟩
 rw [HRB.out]
 refine ⟨_, rfl, ?_⟩
 have HB2 : Aside0 (Below w1.heap.size w1 w2) := ⟨below_step HBD.out hb2⟩
 clear hb2
 change K (Act.put _ (some 9) _) _
 refine hK.out _ _ HB2.out (fun hS0 => ?_)
 clear hK
 refine norm_ (a' := ?_) ?_ ?_
 rotate_left
 ·simp only [Act.put, List.setIfInBounds_toArray, List.set_cons_zero, List.set_cons_succ]
  rfl
 refine pure_ (i := 5) (N := (some 10)) (v := ?_) (a' := ?_) #[true, true, true, true, true, true, false, false, false, false, false, false, false, false, false, false, false] rfl rfl (by kernel_rfl) (fun _ _ _ h => h) (Or.inl ⟨by rfl, ?_⟩) ?_ ?_
 rotate_left
 ·intro w'
  go_simp
  with_reducible rfl
 rotate_left
 ·simp only [Act.put, List.setIfInBounds_toArray, List.set_cons_zero, List.set_cons_succ]
  rfl
 refine pure_ (i := 6) (N := (some 11)) (v := ?_) (a' := ?_) #[true, true, true, true, true, true, true, false, false, false, false, false, false, false, false, false, false] rfl rfl (by kernel_rfl) (fun _ _ _ h => h) (Or.inl ⟨by rfl, ?_⟩) ?_ ?_
 rotate_left
 ·intro w'
  go_simp
  with_reducible rfl
 rotate_left
 ·simp only [Act.put, List.setIfInBounds_toArray, List.set_cons_zero, List.set_cons_succ]
  rfl
 refine pure_ (i := 7) (N := (some 12)) (v := ?_) (a' := ?_) #[true, true, true, true, true, true, true, true, false, false, false, false, false, false, false, false, false] rfl rfl (by kernel_rfl) (fun _ _ _ h => h) (Or.inl ⟨by rfl, ?_⟩) ?_ ?_
 rotate_left
 ·intro w'
  go_simp
  with_reducible rfl
 rotate_left
 ·simp only [Act.put, List.setIfInBounds_toArray, List.set_cons_zero, List.set_cons_succ]
  rfl
 refine pure_ (i := 8) (N := (some 13)) (v := ?_) (a' := ?_) #[true, true, true, true, true, true, true, true, true, false, false, false, false, false, false, false, false] rfl rfl (by kernel_rfl) (fun _ _ _ h => h) (Or.inl ⟨by rfl, ?_⟩) ?_ ?_
 rotate_left
 ·intro w'
  go_simp
  with_reducible rfl
 rotate_left
 ·simp only [Act.put, List.setIfInBounds_toArray, List.set_cons_zero, List.set_cons_succ]
  rfl
 refine take_ (i := 9) (N := (some 14)) (v := ?_) (a' := ?_) #[true, true, true, true, true, true, true, true, true, true, false, false, false, false, false, false, false] rfl rfl (by kernel_rfl) (fun _ _ _ h => h) (Or.inl ⟨by rfl, ?_⟩) hS0 ?_ ?_
 rotate_left
 ·intro w' s0
  have hx1 := (s0.cell (World.block_lt_of_cell? _ _ x1)).trans x1
  go_simp
  with_reducible rfl
 rotate_left
 ·simp only [Act.put, List.setIfInBounds_toArray, List.set_cons_zero, List.set_cons_succ]
  rfl
 refine pure_ (i := 10) (N := (some 15)) (v := ?_) (a' := ?_) #[true, true, true, true, true, true, true, true, true, true, true, false, false, false, false, false, false] rfl rfl (by kernel_rfl) (fun _ _ _ h => h) (Or.inl ⟨by rfl, ?_⟩) ?_ ?_
 rotate_left
 ·intro w'
  go_simp
  with_reducible rfl
 rotate_left
 ·simp only [Act.put, List.setIfInBounds_toArray, List.set_cons_zero, List.set_cons_succ]
  rfl
 refine pure_ (i := 11) (N := (some 16)) (v := ?_) (a' := ?_) #[true, true, true, true, true, true, true, true, true, true, true, true, false, false, false, false, false] rfl rfl (by kernel_rfl) (fun _ _ _ h => h) (Or.inl ⟨by rfl, ?_⟩) ?_ ?_
 rotate_left
 ·intro w'
  go_simp
  with_reducible rfl
 rotate_left
 ·simp only [Act.put, List.setIfInBounds_toArray, List.set_cons_zero, List.set_cons_succ]
  rfl
 refine pure_ (i := 12) (N := (some 17)) (v := ?_) (a' := ?_) #[true, true, true, true, true, true, true, true, true, true, true, true, true, false, false, false, false] rfl rfl (by kernel_rfl) (fun _ _ _ h => h) (Or.inl ⟨by rfl, ?_⟩) ?_ ?_
 rotate_left
 ·intro w'
  go_simp
  with_reducible rfl
 rotate_left
 ·simp only [Act.put, List.setIfInBounds_toArray, List.set_cons_zero, List.set_cons_succ]
  rfl
 refine take_ (i := 13) (N := (some 18)) (v := ?_) (a' := ?_) #[true, true, true, true, true, true, true, true, true, true, true, true, true, true, false, false, false] rfl rfl (by kernel_rfl) (fun _ _ _ h => h) (Or.inl ⟨by rfl, ?_⟩) hS0 ?_ ?_
 rotate_left
 ·intro w' s0
  have hx0 := (s0.cell (World.block_lt_of_cell? _ _ c0)).trans c0
  go_simp
  with_reducible rfl
 rotate_left
 ·simp only [Act.put, List.setIfInBounds_toArray, List.set_cons_zero, List.set_cons_succ]
  rfl
 refine pure_ (i := 14) (N := (some 19)) (v := ?_) (a' := ?_) #[true, true, true, true, true, true, true, true, true, true, true, true, true, true, true, false, false] rfl rfl (by kernel_rfl) (fun _ _ _ h => h) (Or.inl ⟨by rfl, ?_⟩) ?_ ?_
 rotate_left
 ·intro w'
  go_simp
  with_reducible rfl
 rotate_left
 ·simp only [Act.put, List.setIfInBounds_toArray, List.set_cons_zero, List.set_cons_succ]
  rfl
 refine pure_ (i := 15) (N := (some 20)) (v := ?_) (a' := ?_) #[true, true, true, true, true, true, true, true, true, true, true, true, true, true, true, true, false] rfl rfl (by kernel_rfl) (fun _ _ _ h => h) (Or.inl ⟨by rfl, ?_⟩) ?_ ?_
 rotate_left
 ·intro w'
  go_simp
  with_reducible rfl
 rotate_left
 ·simp only [Act.put, List.setIfInBounds_toArray, List.set_cons_zero, List.set_cons_succ]
  rfl
 refine pure_ (i := 16) (N := (some 21)) (v := ?_) (a' := ?_) #[true, true, true, true, true, true, true, true, true, true, true, true, true, true, true, true, true] rfl rfl (by kernel_rfl) (fun _ _ _ h => h) (Or.inl ⟨by rfl, ?_⟩) ?_ ?_
 rotate_left
 ·intro w'
  go_simp
  with_reducible rfl
 rotate_left
 ·simp only [Act.put, List.setIfInBounds_toArray, List.set_cons_zero, List.set_cons_succ]
  rfl
 refine done_ (by kernel_rfl) ?_
 clear hS0 c0 x0 x1
 go_upto_region 3 with (fail)
 have HP2 := Aside0.mk (HP1.out.below HB2.out)
 have HX2 : Aside0 (w2.heap[gb]? = some (.cells #[.int .i64 lo, .int .i64 hi] 33 (0, 0))) := ⟨(HB2.out.block _ (blk_lt HX.out)).trans HX.out⟩
 have x0 := (blk_cell HX2.out 0).trans rfl
 have x1 := (blk_cell HX2.out 1).trans rfl
 have c1 := (blk_cell HP2.out.h1 1).trans rfl
 have HB02 : Aside0 (Below w.heap.size w w2) := ⟨below_step HB1.out HB2.out⟩
 have HBD2 : Aside0 (Below w2.heap.size w2 w2.drew) := ⟨below_drew (Below.refl _ _)⟩
 refine start_ (n := 11) (S := (fun W => Below w2.heap.size w2 W)) (ds := [7, 10]) #[false, false, false, false, false, false, false, false, false, false, false] (by kernel_rfl) (by kernel_rfl) (by rfl) HBD2.out (fun hS0 => ?_)
 refine pure_ (i := 0) (N := (some 22)) (v := ?_) (a' := ?_) #[true, false, false, false, false, false, false, false, false, false, false] rfl rfl (by kernel_rfl) (fun _ _ _ h => h) (Or.inl ⟨by rfl, ?_⟩) ?_ ?_
 rotate_left
 ·intro w'
  go_simp
  with_reducible rfl
 rotate_left
 ·simp only [Act.put, List.setIfInBounds_toArray, List.set_cons_zero, List.set_cons_succ]
  rfl
 refine pure_ (i := 1) (N := (some 23)) (v := ?_) (a' := ?_) #[true, true, false, false, false, false, false, false, false, false, false] rfl rfl (by kernel_rfl) (fun _ _ _ h => h) (Or.inl ⟨by rfl, ?_⟩) ?_ ?_
 rotate_left
 ·intro w'
  go_simp
  with_reducible rfl
 rotate_left
 ·simp only [Act.put, List.setIfInBounds_toArray, List.set_cons_zero, List.set_cons_succ]
  rfl
 refine pure_ (i := 2) (N := (some 24)) (v := ?_) (a' := ?_) #[true, true, true, false, false, false, false, false, false, false, false] rfl rfl (by kernel_rfl) (fun _ _ _ h => h) (Or.inl ⟨by rfl, ?_⟩) ?_ ?_
 rotate_left
 ·intro w'
  go_simp
  with_reducible rfl
 rotate_left
 ·simp only [Act.put, List.setIfInBounds_toArray, List.set_cons_zero, List.set_cons_succ]
  rfl
 refine pure_ (i := 3) (N := (some 25)) (v := ?_) (a' := ?_) #[true, true, true, true, false, false, false, false, false, false, false] rfl rfl (by kernel_rfl) (fun _ _ _ h => h) (Or.inl ⟨by rfl, ?_⟩) ?_ ?_
 rotate_left
 ·intro w'
  go_simp
  with_reducible rfl
 rotate_left
 ·simp only [Act.put, List.setIfInBounds_toArray, List.set_cons_zero, List.set_cons_succ]
  rfl
 refine take_ (i := 4) (N := (some 26)) (v := ?_) (a' := ?_) #[true, true, true, true, true, false, false, false, false, false, false] rfl rfl (by kernel_rfl) (fun _ _ _ h => h) (Or.inl ⟨by rfl, ?_⟩) hS0 ?_ ?_
 rotate_left
 ·intro w' s0
  have hx0 := (s0.cell (World.block_lt_of_cell? _ _ c1)).trans c1
  go_simp
  with_reducible rfl
 rotate_left
 ·simp only [Act.put, List.setIfInBounds_toArray, List.set_cons_zero, List.set_cons_succ]
  rfl
 refine take_ (i := 5) (N := (some 27)) (v := ?_) (a' := ?_) #[true, true, true, true, true, true, false, false, false, false, false] rfl rfl (by kernel_rfl) (fun _ _ _ h => h) (Or.inl ⟨by rfl, ?_⟩) hS0 ?_ ?_
 rotate_left
 ·intro w' s0
  have hx0 := (s0.cell (World.block_lt_of_cell? _ _ x0)).trans x0
  have hx1 := (s0.cell (World.block_lt_of_cell? _ _ x1)).trans x1
  go_simp
  with_reducible rfl
 rotate_left
 ·simp only [Act.put, List.setIfInBounds_toArray, List.set_cons_zero, List.set_cons_succ]
  rfl
 clear hS0
 refine one_ (i := 6) (N := (some 28)) #[true, true, true, true, true, true, true, false, false, false, false] rfl rfl (by kernel_rfl) (by decide) (fun K hK => ?_)
 refine value_ (w1 := w2.drew.alloc (cells33 ⟨lo, hi⟩)) (v := .slice (some ⟨w2.drew.heap.size, 0, none⟩) 1 1) (by rfl) rfl (by go_simp) ?_
 change K (Act.put _ (some 28) _) _
 refine hK.out _ _ (below_step HBD2.out (below_alloc (Below.refl _ _) _)) (fun hS0 => ?_)
 clear hK
 refine norm_ (a' := ?_) ?_ ?_
 rotate_left
 ·simp only [Act.put, List.setIfInBounds_toArray, List.set_cons_zero, List.set_cons_succ]
  rfl
 clear hS0
 refine last_ (i := 7) (N := (some 29)) #[true, true, true, true, true, true, true, true, false, false, false] rfl rfl (by kernel_rfl) (by decide) (fun K hK => ?_)
 have HR2 : Aside0 (Kd.R k33 33 w2.drew 0 (fun q => Dt q ∨ w.heap.size ≤ q) (.slice At J.length ct) J) := ⟨Kd.R_mono (Kd.R_below HP2.out.h3 HBD2.out) (fun _ h => .inl h)⟩
 refine Kd.R_append_step k33 (w0 := w2) 0 (by rfl) (.tmp 26) (.tmp 28) 49 33 (.agg #[.int .i64 0, .int .i64 0]) 16 rfl Try.underlying49 info33 rfl (by decide) (by omega) _ J (⟨lo, hi⟩ : S33) [.int .i64 lo, .int .i64 hi] (fun q => Dt q ∨ w.heap.size ≤ q) (fun _ => False) rfl rfl (k33_mkM _ _ _ (⟨lo, hi⟩ : S33)) (fun _ hk => hk.elim) (fun q hq => .inr (Nat.le_trans HB02.out.size hq)) HR2.out (below_drew (Below.refl _ _)) (Nat.zero_le _) (by have := HJ.out; omega) ?_
 intro v1 w3 hv hb hg hat
 obtain ⟨A5, c5, e5⟩ := Kd.R_slice hv
 subst e5
 have HV := Aside0.mk hv
 have HGR : Aside0 (w2.grownBy w3 (Value.slice At J.length ct).ownBlock) := ⟨World.grownBy.trans (show w2.grownBy w2.drew (Value.slice At J.length ct).ownBlock from ⟨rfl, rfl, rfl, Nat.le_refl _, fun _ _ _ => rfl⟩) hg⟩
 clear hv hb hg hat
 change K (Act.put _ (some 29) _) _
 refine hK.out _ _ ?_
 clear hK
 refine norm_ (a' := ?_) ?_ ?_
 rotate_left
 ·simp only [Act.put, List.setIfInBounds_toArray, List.set_cons_zero, List.set_cons_succ]
  rfl
 refine pure_ (i := 8) (N := (some 30)) (v := ?_) (a' := ?_) #[true, true, true, true, true, true, true, true, true, false, false] rfl rfl (by kernel_rfl) (fun _ _ _ h => h) (Or.inl ⟨by rfl, ?_⟩) ?_ ?_
 rotate_left
 ·intro w'
  go_simp
  with_reducible rfl
 rotate_left
 ·simp only [Act.put, List.setIfInBounds_toArray, List.set_cons_zero, List.set_cons_succ]
  rfl
 refine pure_ (i := 9) (N := (some 31)) (v := ?_) (a' := ?_) #[true, true, true, true, true, true, true, true, true, true, false] rfl rfl (by kernel_rfl) (fun _ _ _ h => h) (Or.inl ⟨by rfl, ?_⟩) ?_ ?_
 rotate_left
 ·intro w'
  go_simp
  with_reducible rfl
 rotate_left
 ·simp only [Act.put, List.setIfInBounds_toArray, List.set_cons_zero, List.set_cons_succ]
  rfl
 have y1 : w3.cell? ⟨b, 1, none⟩ = some (.slice At J.length ct) := by
  have hne : some b ≠ (Value.slice At J.length ct).ownBlock := fun e => (HP2.out.ht b (HP2.out.h3.1 b e.symm)).2.1 rfl
  exact (blk_cell ((HGR.out.block b (blk_lt HP2.out.h1) hne).trans HP2.out.h1) 1).trans rfl
 have y2 : w3.frozen? ⟨b, 1, none⟩ = false := by
  have hne : some b ≠ (Value.slice At J.length ct).ownBlock := fun e => (HP2.out.ht b (HP2.out.h3.1 b e.symm)).2.1 rfl
  exact blk_frozen ((HGR.out.block b (blk_lt HP2.out.h1) hne).trans HP2.out.h1) 1
 refine last_ (i := 10) (N := none) #[true, true, true, true, true, true, true, true, true, true, true] rfl rfl (by kernel_rfl) (by decide) (fun K hK => ?_)
 refine skip_ (w1 := w3.setCell ⟨b, 1, none⟩ (.slice A5 (J ++ [(⟨lo, hi⟩ : S33)]).length c5)) (by rfl) rfl (by go_simp) ?_
 refine hK.out _ _ ?_
 clear hK
 refine done_ (by kernel_rfl) ?_
 go_wp2
 go_ret
 obtain ⟨q1, q2⟩ := HP.out.join HB02.out HGR.out (v1 := .slice A5 (J ++ [(⟨lo, hi⟩ : S33)]).length c5) HV.out
 exact ⟨rfl, by simpa only [List.length_append, List.length_cons, List.length_nil] using q1, by simpa only [List.length_append, List.length_cons, List.length_nil] using q2⟩
end Go.Proofs.Ytohhobcipfmkbaa.Cel
end
section
namespace Go.Proofs.Ytohhobcipfmkbaa.PClusterFinest
open Go.RowKit Go.Proofs.YtohhobcipfmkbaaW.PrintWords Go.Proofs.YtohhobcipfmkbaaW.PrintLast Go.Proofs.YtohhobcipfmkbaaW.PrintMore
attribute [local go_sem] max2_int min2_int max_two min_two max_three min_three max_four min_four   -- for this text's walks alone
def slices_Equal_int_int.l0 : Nat → List Int → List Int → Int → Int → Option (Bool)
 | 0, _, _, _, _ => none
 | k + 1, x0, x1, x12, x13 => if x13 < x12 then (if 0 ≤ x13 then (if x13 < (x0.length : Int) then (if x13 < (x1.length : Int) then (if (rd x0 x13) = (rd x1 x13) then (slices_Equal_int_int.l0 k x0 x1 x12 (wrap64 (x13 + 1))) else (some false)) else (none)) else (none)) else (none)) else (some true)
def slices_Equal_int_int.f (k : Nat) (l0 : List Int) (l1 : List Int) : Option (Bool) := if (l0.length : Int) = (l1.length : Int) then (slices_Equal_int_int.l0 k l0 l1 (l0.length : Int) 0) else (some false)
set_option maxHeartbeats 8000000 in
set_option maxRecDepth 100000 in
theorem slices_Equal_int_int.calls (k : Nat) (A0 : Option Addr) (c0 : Nat) (l0 : List Int) (A1 : Option Addr) (c1 : Nat) (l1 : List Int) (r : Bool) (w : World) (hr0 : Kd.C (Kd.int .i64) w A0 l0.length l0) (hc0 : l0.length ≤ c0) (hr1 : Kd.C (Kd.int .i64) w A1 l1.length l1) (hc1 : l1.length ≤ c1) (h : slices_Equal_int_int.f k l0 l1 = some r) :
 Calls Try.prog 16 #[.slice A0 l0.length c0, .slice A1 l1.length c1] w fun e w' => e = .returned (.bool r) ∧ Drawn0 w w' := by
 have HR0 := Aside0.mk hr0
 have HC0 := Aside0.mk hc0
 clear hr0 hc0
 have HR1 := Aside0.mk hr1
 have HC1 := Aside0.mk hc1
 clear hr1 hc1
 have H : (if (l0.length : Int) = (l1.length : Int) then (slices_Equal_int_int.l0 k l0 l1 (l0.length : Int) 0) else (some false)) = some r := h
 clear h
 by_cases c3 : (l0.length : Int) = (l1.length : Int)
 ·rw [if_pos c3] at H
  have c3b0 : ((l0.length : Int) == (l1.length : Int)) = true := beq_iff_eq.mpr c3
  have c3b1 : ((l0.length : Int) != (l1.length : Int)) = false := bne_eq_false_iff_eq.mpr c3
  have c3b2 : (l0.length == l1.length) = true := by first | simpa using c3 | (simp at c3 ⊢; omega)
  clear c3
  have H' := Aside0.mk H
  clear H
  go_enter Try.func16, Try.ntmps16
  go_wp2
  repeat (go_quiet (fail); try go_wp2)
  go_loopg [13] k (fun kq v13 w' => ∃ (x13_1 : Int), v13 = .int .i64 x13_1 ∧ Aside0 (slices_Equal_int_int.l0 kq l0 l1 (l0.length : Int) x13_1 = some r) ∧ Aside0 (kq ≤ k) ∧ Drawn0 w w')
  case atStart => exact ⟨(0), (by first | rfl | (simp; done) | (simp [*]; done)), H', ⟨Nat.le_refl _⟩, by repeat (first | exact Drawn0.refl _ | apply Drawn0.step)⟩
  case round =>
   clear H'
   try clear c1
   try clear p2
   try clear c3
   try clear c3b0
   try clear c3b1
   try clear c3b2
   obtain ⟨x13_1, rfl, HA, HK1, ⟨m1, rfl⟩⟩ := hrel
   cases gk with
   | zero => exact absurd HA.out (by simp [slices_Equal_int_int.l0])
   | succ k1 =>
    have H := HA.out
    clear HA
    simp only [slices_Equal_int_int.l0] at H
    by_cases c4 : x13_1 < (l0.length : Int)
    ·rw [if_pos c4] at H
     have c4b0 : decide (x13_1 < (l0.length : Int)) = true := decide_eq_true c4
     clear c4
     by_cases c5 : 0 ≤ x13_1
     ·rw [if_pos c5] at H
      have c5b0 : decide (0 ≤ x13_1) = true := decide_eq_true c5
      clear c5
      by_cases c6 : x13_1 < (l0.length : Int)
      ·rw [if_pos c6] at H
       have c6b0 : decide (x13_1 < (l0.length : Int)) = true := decide_eq_true c6
       clear c6
       by_cases c7 : x13_1 < (l1.length : Int)
       ·rw [if_pos c7] at H
        have c7b0 : decide (x13_1 < (l1.length : Int)) = true := decide_eq_true c7
        clear c7
        by_cases c8 : (rd l0 x13_1) = (rd l1 x13_1)
        ·rw [if_pos c8] at H
         have c8b0 : ((rd l0 x13_1) == (rd l1 x13_1)) = true := beq_iff_eq.mpr c8
         have c8b1 : ((rd l0 x13_1) != (rd l1 x13_1)) = false := bne_eq_false_iff_eq.mpr c8
         clear c8
         have H' := Aside0.mk H
         clear H
         have p101 : 0 ≤ (x13_1 : Int) := of_decide_eq_true (by first | (with_reducible assumption) | assumption)
         have q101 : x13_1 < (l0.length : Int) := of_decide_eq_true (by first | (with_reducible assumption) | assumption)
         obtain ⟨ad101, e101, hx101_0⟩ := Kd.at_int HR0.out x13_1 p101 q101
         cases e101
         replace p101 := eq_true p101
         replace q101 := eq_true q101
         have p102 : 0 ≤ (x13_1 : Int) := of_decide_eq_true (by first | (with_reducible assumption) | assumption)
         have q102 : x13_1 < (l1.length : Int) := of_decide_eq_true (by first | (with_reducible assumption) | assumption)
         obtain ⟨ad102, e102, hx102_0⟩ := Kd.at_int HR1.out x13_1 p102 q102
         cases e102
         replace p102 := eq_true p102
         replace q102 := eq_true q102
         go_wp2
         repeat (go_quiet (fail); try go_wp2)
         go_roundg k1
         case measure => have := HK1.out; omega
         case rel => exact ⟨(wrap64 (x13_1 + 1)), (by first | rfl | (simp; done) | (simp [*]; done)), H', ⟨by have := HK1.out; omega⟩, by repeat (first | exact Drawn0.refl _ | apply Drawn0.step)⟩
        ·rw [if_neg c8] at H
         have c8b0 : ((rd l0 x13_1) == (rd l1 x13_1)) = false := beq_eq_false_iff_ne.mpr c8
         have c8b1 : ((rd l0 x13_1) != (rd l1 x13_1)) = true := bne_iff_ne.mpr c8
         obtain rfl := Option.some.inj H
         have p101 : 0 ≤ (x13_1 : Int) := of_decide_eq_true (by first | (with_reducible assumption) | assumption)
         have q101 : x13_1 < (l0.length : Int) := of_decide_eq_true (by first | (with_reducible assumption) | assumption)
         obtain ⟨ad101, e101, hx101_0⟩ := Kd.at_int HR0.out x13_1 p101 q101
         cases e101
         replace p101 := eq_true p101
         replace q101 := eq_true q101
         have p102 : 0 ≤ (x13_1 : Int) := of_decide_eq_true (by first | (with_reducible assumption) | assumption)
         have q102 : x13_1 < (l1.length : Int) := of_decide_eq_true (by first | (with_reducible assumption) | assumption)
         obtain ⟨ad102, e102, hx102_0⟩ := Kd.at_int HR1.out x13_1 p102 q102
         cases e102
         replace p102 := eq_true p102
         replace q102 := eq_true q102
         go_wp2
         repeat (go_quiet (fail); try go_wp2)
         go_ret
         exact ⟨by first | rfl | (simp; done) | (simp [*]; done), by repeat (first | exact Drawn0.refl _ | apply Drawn0.step)⟩
       ·rw [if_neg c7] at H
        exact absurd H (by simp)
      ·rw [if_neg c6] at H
       exact absurd H (by simp)
     ·rw [if_neg c5] at H
      exact absurd H (by simp)
    ·rw [if_neg c4] at H
     have c4b0 : decide (x13_1 < (l0.length : Int)) = false := decide_eq_false c4
     clear c4
     obtain rfl := Option.some.inj H
     go_wp2
     repeat (go_quiet (fail); try go_wp2)
     go_ret
     exact ⟨by first | rfl | (simp; done) | (simp [*]; done), by repeat (first | exact Drawn0.refl _ | apply Drawn0.step)⟩
 ·rw [if_neg c3] at H
  have c3b0 : ((l0.length : Int) == (l1.length : Int)) = false := beq_eq_false_iff_ne.mpr c3
  have c3b1 : ((l0.length : Int) != (l1.length : Int)) = true := bne_iff_ne.mpr c3
  have c3b2 : (l0.length == l1.length) = false := by first | simpa using c3 | (simp at c3 ⊢; omega)
  obtain rfl := Option.some.inj H
  go_enter Try.func16, Try.ntmps16
  go_wp2
  repeat (go_quiet (fail); try go_wp2)
  go_ret
  exact ⟨by first | rfl | (simp; done) | (simp [*]; done), by repeat (first | exact Drawn0.refl _ | apply Drawn0.step)⟩
end Go.Proofs.Ytohhobcipfmkbaa.PClusterFinest
end
section
namespace Go.Proofs.Ytohhobcipfmkbaa.CFin
open Go.RowKit Go.Maps Go.Proofs.YtohhobcipfmkbaaW.PrintWords Go.Proofs.YtohhobcipfmkbaaW.PrintMore Go.Proofs.YtohhobcipfmkbaaW.PrintLast Go.Proofs.Ytohhobcipfmkbaa.U Go.Proofs.Ytohhobcipfmkbaa.PClusterFinest Go.Proofs.Ytohhobcipfmkbaa.UFinest Go.Proofs.Ytohhobcipfmkbaa.UFinEv
def MO (w : World) (b n : Nat) (l : List Nat) : Prop := ∃ D : DataW Unit, IsMap D ∧ w.ownsMap Try.prog 3 (plainElem Try.prog 3) b n D ∧ (∀ v : Nat, has D (.int .i64 v) = decide (v ∈ l)) ∧ ∀ v : Nat, v ∈ l → D.atKey (.int .i64 v) (.lit (.int .i64 0)) = .lit (.int .i64 (l.idxOf v : Nat))
theorem MO.made (w : World) : MO (w.alloc (.map #[] 0)) w.heap.size 0 [] := ⟨.map [], isMap_empty, World.ownsMap_made w _ _ _, fun v => rfl, fun v h => by cases h⟩
theorem MO.kept {w w' : World} {b n : Nat} {l : List Nat} (h : MO w b n l) {row : Option Nat} (hg : w.grownBy w' row) (hne : some b ≠ row) : MO w' b n l := by
 obtain ⟨D, h1, h2, h3⟩ := h
 exact ⟨D, h1, h2.kept hg hne, h3⟩
theorem MO.mono {w : World} {b n n' : Nat} {l : List Nat} (h : MO w b n l) (hn : n ≤ n') : MO w b n' l := by
 obtain ⟨D, h1, h2, h3⟩ := h
 exact ⟨D, h1, h2.mono hn, h3⟩
theorem MO.lt {w : World} {b n : Nat} {l : List Nat} (h : MO w b n l) : b < w.heap.size := by
 obtain ⟨D, h1, h2, h3⟩ := h
 exact h2.lt
set_option maxRecDepth 100000 in
theorem MO.lookup {w : World} {b n : Nat} {l : List Nat} (h : MO w b n l) (v : Nat) (hv : v ≤ 1000000) (hl : v ∈ l) : (Instr.lookup 112 (.map (some b)) (.int .i64 v) false).run Try.prog w = .ok (.int .i64 (l.idxOf v : Nat)) w := by
 obtain ⟨D, h1, h2, h3, h4⟩ := h
 obtain ⟨c, hr, hc, _⟩ := h2.lookup_int keyed3 Try.underlying112 Try.underlying3 (zero3 w) (key3 v hv)
 rw [h4 v hl] at hc
 injection hc with hc
 injection hc with _ hc
 rw [hc]
 exact hr
set_option maxRecDepth 100000 in
theorem MO.look {w : World} {b n : Nat} {l : List Nat} (h : MO w b n l) (v : Nat) (hv : v ≤ 1000000) : (Instr.lookup 112 (.map (some b)) (.int .i64 v) true).run Try.prog w = .ok (.tuple #[.int .i64 (if v ∈ l then l.idxOf v else 0 : Nat), .bool (decide (v ∈ l))]) w := by
 obtain ⟨D, h1, h2, h3, h4⟩ := h
 obtain ⟨es, clock, hb, F, _, rfl⟩ := h2
 rcases Maps.fit_look true keyed3 Try.underlying112 (zero3 w) hb F (key3 v hv) with ⟨hrun, _, hat⟩ | ⟨e0, y, _, _, hrun, hRv, hat, _⟩
 ·have hf := has_false_of_atKey hat
  rw [h3 v, decide_eq_false_iff_not] at hf
  rw [if_neg hf, decide_eq_false hf]
  exact hrun
 ·have hf := has_true_of_atKey hat
  rw [h3 v, decide_eq_true_eq] at hf
  rw [if_pos hf, decide_eq_true hf]
  obtain ⟨a, ha, rfl, _⟩ := plainElem_int_inv Try.underlying3 hRv
  have := (h4 v hf).symm.trans (hat _)
  injection this with hc
  injection hc with _ hc
  rw [hc, ← ha]
  exact hrun
theorem MO.put {w' : World} {b n v : Nat} {l : List Nat} {D : DataW Unit} (h1 : IsMap D) (h3 : ∀ v : Nat, has D (.int .i64 v) = decide (v ∈ l)) (h4 : ∀ v : Nat, v ∈ l → D.atKey (.int .i64 v) (.lit (.int .i64 0)) = .lit (.int .i64 (l.idxOf v : Nat))) (hv : v ≤ 1000000) (hl : v ∉ l) (h2 : w'.ownsMap Try.prog 3 (plainElem Try.prog 3) b (n + 1) (D.put (.int .i64 v) (.lit (.int .i64 (l.length : Nat))))) : MO w' b (n + 1) (l ++ [v]) := by
 have hk := keyed3.key (key3 v hv)
 refine ⟨_, h1.put _ _, h2, fun x => ?_, fun x hx => ?_⟩
 ·by_cases e : x = v
  ·subst e
   rw [has_put_same h1 hk, decide_eq_true (by simp)]
  ·rw [has_put_other (fun h => e (by injection h with _ h; omega)), h3]
   simp [e]
 ·by_cases e : x = v
  ·subst e
   rw [atKey_put_same h1 hk, List.idxOf_append, if_neg hl]
   simp
  ·have hx' : x ∈ l := by simpa [e] using hx
   rw [atKey_put_other (fun h => e (by injection h with _ h; omega)), h4 x hx', List.idxOf_append, if_pos hx']
def fld (x : S45) : Nat → Int
 | 0 => x.f0.f0
 | 1 => x.f0.f1
 | 2 => x.f1.f0
 | _ => x.f1.f1
def setF (x : S45) (j : Nat) (u : Int) : S45 :=
 match j with
 | 0 => ⟨⟨u, x.f0.f1⟩, x.f1⟩
 | 1 => ⟨⟨x.f0.f0, u⟩, x.f1⟩
 | 2 => ⟨x.f0, ⟨u, x.f1.f1⟩⟩
 | _ => ⟨x.f0, ⟨x.f1.f0, u⟩⟩
def RC (w : World) (base q cap : Nat) (xs : List S45) : Prop := Kd.R k45 45 w base (fun k => k = q) (.slice (some ⟨q, 0, none⟩) xs.length cap) xs
theorem RC.cell {w : World} {base q cap : Nat} {xs : List S45} (h : RC w base q cap xs) (i : Nat) (hi : i < xs.length) (j : Nat) (hj : j < 4) : w.cell? ⟨q, i * 4 + j, none⟩ = some (.int .i64 (fld xs[i] j)) ∧ w.frozen? ⟨q, i * 4 + j, none⟩ = false := by
 obtain ⟨c, _, hM, hc, hf⟩ := Kd.R_elem h z45 (i : Int) (by omega) (by omega)
 rw [Int.toNat_natCast, List.getD_eq_getElem?_getD, List.getElem?_eq_getElem hi] at hM
 obtain rfl := k45_openM hM
 rw [Int.toNat_natCast] at hc hf
 refine ⟨?_, hf j⟩
 match j, hj with
 | 0, _ => exact hc 0 _ rfl
 | 1, _ => exact hc 1 _ rfl
 | 2, _ => exact hc 2 _ rfl
 | 3, _ => exact hc 3 _ rfl
theorem RC.put {w : World} {base q cap : Nat} {xs : List S45} (h : RC w base q cap xs) (i : Nat) (hi : i < xs.length) (j : Nat) (hj : j < 4) (u : Int) : RC (w.setCell ⟨q, i * 4 + j, none⟩ (.int .i64 u)) base q cap (xs.set i (setF xs[i] j u)) := by
 obtain ⟨c, hl, hM, hc, hf⟩ := Kd.R_elem h z45 (i : Int) (by omega) (by omega)
 rw [Int.toNat_natCast, List.getD_eq_getElem?_getD, List.getElem?_eq_getElem hi] at hM
 obtain rfl := k45_openM hM
 unfold RC
 rw [List.length_set]
 have := (Kd.R_seg h (i : Int) (by omega) (by omega) (c := _) (seg := [.int .i64 u]) (j := j) (x' := setF xs[i] j u) (okp := fun _ => False) hl hc (by show j + 1 ≤ 4; omega) (by
  match j, hj with
  | 0, _ => exact k45_mkM _ _ _ _
  | 1, _ => exact k45_mkM _ _ _ _
  | 2, _ => exact k45_mkM _ _ _ _
  | 3, _ => exact k45_mkM _ _ _ _) (fun _ h => h.elim)).1
 rw [Int.toNat_natCast] at this
 exact this
theorem RC.grown {w w' : World} {base q cap : Nat} {xs : List S45} (h : RC w base q cap xs) {row : Option Nat} (hg : w.grownBy w' row) (hne : some q ≠ row) : RC w' base q cap xs := Kd.R_grown h hg (fun k hk => by rw [hk]; exact hne)
theorem RC.lt {w : World} {base q cap : Nat} {xs : List S45} (h : RC w base q cap xs) (hp : 0 < xs.length) : base ≤ q ∧ q < w.heap.size := by
 obtain ⟨g, cap', e, h1, h2, _⟩ := Kd.R_form h hp
 injection e with e1 _ _
 injection e1 with e1
 injection e1 with e1
 subst e1
 exact ⟨h1, h2⟩
end Go.Proofs.Ytohhobcipfmkbaa.CFin
end
section
namespace Go.Proofs.Ytohhobcipfmkbaa.CFin
open Go.RowKit Go.Maps Go.Proofs.YtohhobcipfmkbaaW.PrintWords Go.Proofs.YtohhobcipfmkbaaW.PrintMore Go.Proofs.YtohhobcipfmkbaaW.PrintLast Go.Proofs.Ytohhobcipfmkbaa.U Go.Proofs.Ytohhobcipfmkbaa.PClusterFinest Go.Proofs.Ytohhobcipfmkbaa.UFinest Go.Proofs.Ytohhobcipfmkbaa.UFinEv
theorem grown_row {w a b : World} {g : Nat} {row : Option Nat} (h1 : w.grownBy a (some g)) (h2 : a.grownBy b row) (hr : ∀ k, row = some k → w.heap.size ≤ k) : w.grownBy b (some g) :=
 ⟨h2.os.trans h1.os, h2.tape.trans h1.tape, h2.output.trans h1.output, Nat.le_trans h1.size h2.size, fun k hk hne => (h2.block k (Nat.lt_of_lt_of_le hk h1.size) (fun e => by have := hr k e.symm; omega)).trans (h1.block k hk hne)⟩
attribute [local go_sem] max2_int min2_int max_two min_two
theorem step_there {r : Lab} {m k x ix : Nat} {xs : List S45} (hx : x = r k) (hth : x ∈ firsts r k) (hxs : xs = (firsts r k).map (toS ∘ clu1 r m k)) (hix : ix = (firsts r k).idxOf x) (hl : ix < xs.length) : (firsts r (k + 1)).map (toS ∘ clu1 r m (k + 1)) = xs.set ix (setF xs[ix] 1 ((k : Int) + 1)) := by
 subst hx
 rw [← List.map_map, clu1_there hth, List.map_set, List.map_map, ← hxs, ← hix]
 congr 1
 have : xs[ix] = toS (clu1 r m k (r k)) := by
  subst hxs hix
  rw [List.getElem_map, List.getElem_idxOf]; rfl
 rw [this]
 rfl
theorem step_new {r : Lab} {m k x : Nat} {xs : List S45} (hx : x = r k) (hth : x ∉ firsts r k) (hxs : xs = (firsts r k).map (toS ∘ clu1 r m k)) (y : S45) (hy : y = ⟨⟨k, 0⟩, ⟨m, 0⟩⟩) (hl : xs.length < (xs ++ [y]).length) : (firsts r (k + 1)).map (toS ∘ clu1 r m (k + 1)) = (xs ++ [y]).set xs.length (setF (xs ++ [y])[xs.length] 1 ((k : Int) + 1)) := by
 subst hx hy
 rw [← List.map_map, clu1_new hth, List.map_append, List.map_map, ← hxs, List.getElem_concat_length rfl, List.set_append_right _ _ (Nat.le_refl _), Nat.sub_self]
 rfl
theorem RC.put2 {w : World} {base q cap : Nat} {xs : List S45} (h : RC w base q cap xs) (i : Nat) (hi : i < xs.length) (u v : Int) : RC ((w.setCell ⟨q, i * 4 + 2, none⟩ (.int .i64 u)).setCell ⟨q, i * 4 + 2 + 1, none⟩ (.int .i64 v)) base q cap (xs.set i ⟨xs[i].f0, ⟨u, v⟩⟩) := by
 have h1 := h.put i hi 2 (by omega) u
 have h2 := h1.put i (by rw [List.length_set]; exact hi) 3 (by omega) v
 rw [List.set_set, List.getElem_set_self] at h2
 exact h2
theorem step_out {r : Lab} {n m t i x ix o1 : Nat} {xs : List S45} (ht : t < m) (hi : i = n + t) (hx : x = r i) (hth : x ∈ firsts r n) (hxs : xs = (firsts r n).map (toS ∘ clu2 r n m t)) (hix : ix = (firsts r n).idxOf x) (ho : o1 = (out2 r n m x t).1) (hl : ix < xs.length) (o2 : Int) (h2 : o2 = ((min o1 t : Nat) : Int)) : (firsts r n).map (toS ∘ clu2 r n m (t + 1)) = xs.set ix ⟨xs[ix].f0, ⟨o2, (t : Int) + 1⟩⟩ := by
 subst hi hx h2 ho
 rw [← List.map_map, clu2_step ht hth, List.map_set, List.map_map, ← hxs, ← hix]
 congr 1
 have : xs[ix] = toS (clu2 r n m t (r (n + t))) := by
  subst hxs hix
  rw [List.getElem_map, List.getElem_idxOf]; rfl
 rw [this]
 rfl
set_option maxRecDepth 100000 in
set_option maxHeartbeats 1000000 in
theorem clusters_c {w : World} {base B g n m N cap : Nat} {p : List Int} {r : Lab} (hW : WV w B g n m N cap) (h : LI w base g N cap p) (hne : B ≠ g) (hp : PF N r p) (ho : LabOk N r) (hN : N ≤ 1000) (hnm : n + m = N) (hn : 0 < n)
 (hb : Between (fun x y => r x = r y) 0 n) (hout : ∀ j, j < n → ∃ i, i < m ∧ r (n + i) = r j) (hin : ∀ i, i < m → ∃ j, j < n ∧ r j = r (n + i)) :
 Calls Try.prog 63 #[.pointer (some ⟨B, 0, none⟩)] w fun e w' => ∃ u, e = .returned u ∧ Kd.R k45 45 w' w.heap.size (fun _ => True) u (cluS n m r n) ∧ w.grownBy w' (some g) := by
 have HW := Aside0.mk hW
 have HV := Aside0.mk h
 have HP := Aside0.mk hp
 have HO := Aside0.mk ho
 have HBT := Aside0.mk hb
 have HOUT := Aside0.mk hout
 have HIN := Aside0.mk hin
 have hgw := h.ltw
 have hBw := blk_lt hW
 have d1 := (World.grownBy_alloc w (.map #[] 0) none).cell (hW.c1) (by simp)
 have hmm := @run_makeMap Try.prog
 have HW5 := Aside0.mk (hW.below (below_alloc (Below.refl _ _) (.map #[] 0)))
 have HV5 := Aside0.mk (h.below (below_alloc (Below.refl _ _) (.map #[] 0)))
 have HM5 := Aside0.mk (MO.made w)
 have HG5 : Aside0 (w.grownBy (w.alloc (.map #[] 0)) (some g)) := ⟨World.grownBy_alloc _ _ _⟩
 clear hW h hp ho hb hout hin
 go_enter Try.func63, Try.ntmps63
 go_wp2
 obtain ⟨gm, hgm⟩ : ∃ gm, gm = w.heap.size := ⟨_, rfl⟩
 have HGM := Aside0.mk hgm
 have HNG : Aside0 (gm ≠ g) := ⟨by omega⟩
 have HNB : Aside0 (B ≠ gm) := ⟨by omega⟩
 have HM5 : Aside0 (MO (w.alloc (.map #[] 0)) gm 0 []) := ⟨by rw [hgm]; exact HM5.out⟩
 have HGW := Aside0.mk hgw
 have HBW := Aside0.mk hBw
 rw [← hgm]
 clear hgm hmm hgw hBw
 go_loopw [3, 16] (fun v3 v wr => ∃ (k : Nat) (p : List Int), v = .int .i64 (k : Int) ∧ k ≤ n ∧ Aside0 (WV wr B g n m N cap) ∧ Aside0 (LI wr base g N cap p) ∧ Aside0 (PF N r p) ∧ Aside0 (MO wr gm k (firsts r k)) ∧ Aside0 (Kd.R k45 45 wr w.heap.size (fun q => q ≠ g ∧ q ≠ gm) v3 ((firsts r k).map (toS ∘ clu1 r m k))) ∧ Aside0 (w.grownBy wr (some g))) (fun _ v _ => n - (intOf v).toNat)
 case atStart => exact ⟨0, p, rfl, Nat.zero_le _, HW5, HV5, HP, HM5, ⟨Kd.R_nil _ _ _ _ _⟩, HG5⟩
 case round =>
  clear HW5 HV5 HP HM5 HG5 d1
  obtain ⟨k, p, rfl, hk, HW, HV, HP, HM, HR, HG⟩ := hrel
  have d0 := HW.out.c0
  have d2 := HW.out.c2
  obtain ⟨A, c, rfl⟩ := Kd.R_slice HR.out
  by_cases hlt : k < n
  ·have hkI : (k : Int) < (n : Int) := by omega
   have hkN : k < N := by omega
   obtain ⟨x, hx⟩ : ∃ x, x = r k := ⟨_, rfl⟩
   have HXE := Aside0.mk hx
   have hxN : x < N := by have := HO.out.le k hkN; omega
   obtain ⟨xs, hxs⟩ : ∃ xs, xs = (firsts r k).map (toS ∘ clu1 r m k) := ⟨_, rfl⟩
   have hlen : xs.length = (firsts r k).length := by rw [hxs, List.length_map]
   have hlk := firsts_len r k
   rw [← hxs] at HR ⊢
   have HXS := Aside0.mk hxs
   have HLEN := Aside0.mk hlen
   obtain ⟨ln, hln⟩ : ∃ ln, ln = xs.length := ⟨_, rfl⟩
   have e1 : IntKind.i64.wrap ((k : Int) + 1) = ((k + 1 : Nat) : Int) := by rw [IntWalk.i64_in _ (by omega)]; omega
   have hlnN : ln ≤ k := by omega
   have HLK := Aside0.mk hlk
   have HLN := Aside0.mk hln
   rw [← hln] at HR ⊢
   clear hx hlen hlk hxs hln
   by_cases hth : x ∈ firsts r k
   ·obtain ⟨ix, hix⟩ : ∃ ix, ix = (firsts r k).idxOf x := ⟨_, rfl⟩
    have hixl : ix < ln := by rw [HLN.out, HLEN.out, hix]; exact List.idxOf_lt_length_of_mem hth
    have HIX := Aside0.mk hix
    have HTH := Aside0.mk hth
    have hixI : (ix : Int) < (ln : Int) := by omega
    obtain ⟨q, cp, ev, hq1, hq2, _⟩ := Kd.R_form HR.out (by rw [← HLN.out]; omega)
    rw [← HLN.out] at ev
    have HEV := Aside0.mk ev
    injection ev with ev1 ev2 ev3
    clear ev2
    subst ev1 ev3
    have HRC : Aside0 (RC wr w.heap.size q c xs) := ⟨by
     have := HR.out
     rw [HLN.out] at this
     exact Kd.R_mono (Kd.R_tight rfl this) (fun j hj => (Option.some.inj (by simpa [Value.ownBlock] using hj)))⟩
    have HQG : Aside0 (q ≠ g ∧ q ≠ gm) := ⟨HR.out.1 q (by simp [Value.ownBlock])⟩
    have HQ1 := Aside0.mk hq1
    clear hix hth hq1 hq2 HR
    go_wp2_with (first | (go_at_call 86; refine (find_c HV.out HP.out (by omega) k hkN).mono ?_; rintro e w6 ⟨p1, rfl, a1, a2, a3⟩; rw [← HXE.out]; have HV6 := Aside0.mk a1; have HP6 := Aside0.mk a2; have HG6 : Aside0 (wr.grownBy w6 (some g)) := ⟨a3⟩; have hlk := (HM.out.kept a3 (fun e => HNG.out (Option.some.inj e))).look x (by omega); rw [if_pos HTH.out, decide_eq_true HTH.out, ← HIX.out] at hlk; have HRC6 : Aside0 (RC w6 w.heap.size q c xs) := ⟨HRC.out.grown a3 (fun e => HQG.out.1 (Option.some.inj e))⟩; obtain ⟨c1, f1⟩ := HRC6.out.cell ix (by rw [← HLN.out]; exact hixl) 1 (by omega); have HW6 := Aside0.mk (HW.out.grown a3 hne); clear a1 a2 a3 HV HP))
    have hixl' : ix < xs.length := by rw [← HLN.out]; exact hixl
    have HRC7 := Aside0.mk (HRC6.out.put ix hixl' 1 (by omega) ((k : Int) + 1))
    have HG7 : Aside0 (w6.grownBy (w6.setCell ⟨q, ix * 4 + 1, none⟩ (.int .i64 ((k : Int) + 1))) (some q)) := ⟨grown_set _ _ _ _⟩
    have hst := step_there (m := m) HXE.out HTH.out HXS.out HIX.out hixl'
    have hfs : firsts r (k + 1) = firsts r k := by rw [firsts, if_pos (by rw [← HXE.out]; exact HTH.out)]
    refine ⟨⟨k + 1, p1, by go_num, by omega, ⟨HW6.out.grown HG7.out ?_⟩, ⟨HV6.out.grown HG7.out HQG.out.1.symm⟩, HP6, ⟨?_⟩, ⟨?_⟩, ⟨grown_row (World.grownBy.trans HG.out HG6.out) HG7.out (fun j hj => by have := Option.some.inj hj; have := HQ1.out; omega)⟩⟩, by simp [intOf]; omega⟩
    ·have := HQ1.out; have := HBW.out; omega
    ·rw [hfs]
     exact ((HM.out.kept HG6.out (fun e => HNG.out (Option.some.inj e))).kept HG7.out (fun e => HQG.out.2 (Option.some.inj e).symm)).mono (by omega)
    ·rw [hst]
     have := HRC7.out
     unfold RC at this
     rw [List.length_set, ← HLN.out] at this
     exact Kd.R_mono this (fun j hj => by rw [hj]; exact HQG.out)
   ·have HTH := Aside0.mk hth
    clear hth
    have y0 : S45 := ⟨⟨k, 0⟩, ⟨m, 0⟩⟩
    go_wp2_with (first | (go_at_call 86; refine (find_c HV.out HP.out (by omega) k hkN).mono ?_; rintro e w6 ⟨p1, rfl, a1, a2, a3⟩; rw [← HXE.out]; have HV6 := Aside0.mk a1; have HP6 := Aside0.mk a2; have HG6 : Aside0 (wr.grownBy w6 (some g)) := ⟨a3⟩; have hlk := (HM.out.kept a3 (fun e => HNG.out (Option.some.inj e))).look x (by omega); rw [if_neg HTH.out, decide_eq_false HTH.out] at hlk; have HW6 := Aside0.mk (HW.out.grown a3 hne); clear a1 a2 a3 HV HP) | (at_mapUpdate; obtain ⟨D, m1, m2, m3, m4⟩ := HM.out; refine wpList_mapUpdate_own _ rfl _ _ _ 112 rfl 3 3 keyed3 Try.underlying112 (plainElem Try.prog 3) gm k D rfl (m2.kept HG6.out (by intro e; exact HNG.out (Option.some.inj e))) (by unfold maxLen; omega) _ _ (.int .i64 x) rfl rfl (key3 x (by omega)) _ [] (elem3 ln (by omega)) ?_; intro w7 m5 m6; have HM7 : Aside0 (MO w7 gm (k + 1) (firsts r k ++ [x])) := ⟨MO.put m1 m3 m4 (by omega) HTH.out (by rw [HLN.out, HLEN.out] at m5; exact m5)⟩; have HG7 : Aside0 (w6.grownBy w7 (some gm)) := ⟨m6⟩; have HR7 : Aside0 (Kd.R k45 45 w7 w.heap.size (fun q => q ≠ g ∧ q ≠ gm) (.slice A ln c) xs) := ⟨Kd.R_grown (Kd.R_grown HR.out HG6.out (fun j hj e => hj.1 (Option.some.inj e))) m6 (fun j hj e => hj.2 (Option.some.inj e))⟩; have HW7 := Aside0.mk (HW6.out.grown m6 HNB.out); have d27 := HW7.out.c2; clear m1 m2 m3 m4 m5 m6 HM HR) | ((with_reducible refine gate_builtin (b := .append) (xs := #[.tmp 38, .tmp 47]) rfl ?_); at_builtin; refine Kd.R_append k45 (w0 := w7) w.heap.size rfl (.tmp 38) (.tmp 47) 40 45 (.agg #[(.int .i64 0), (.int .i64 0), (.int .i64 0), (.int .i64 0)]) 32 rfl Try.underlying40 info45 rfl (by decide) (by omega) _ xs (⟨⟨(k : Int), 0⟩, ⟨(m : Int), 0⟩⟩ : S45) [.int .i64 k, .int .i64 0, .int .i64 m, .int .i64 0] (fun q => q ≠ g ∧ q ≠ gm) (fun _ => False) rfl (by first | (go_simp; done) | (go_simp; rfl)) (k45_mkM _ _ _ (⟨⟨(k : Int), 0⟩, ⟨(m : Int), 0⟩⟩ : S45)) (fun _ h => h.elim) (fun q hq => ⟨fun e => by have := HGW.out; have := (World.grownBy.trans HG.out HG6.out).size; have := HG7.out.size; omega, fun e => by have := HM7.out.lt; omega⟩) HR7.out (Below.refl _ _) (Nat.le_trans (World.grownBy.trans HG.out HG6.out).size HG7.out.size) (by have := HLN.out; omega) ?_; intro v8 w8 hv hb hg hat; obtain ⟨q, cp, rfl, hq1, hq2, _⟩ := Kd.R_form hv (by simp); have HQG : Aside0 (q ≠ g ∧ q ≠ gm) := ⟨hv.1 q (by simp [Value.ownBlock])⟩; have HRC : Aside0 (RC w8 w.heap.size q cp (xs ++ [(⟨⟨(k : Int), 0⟩, ⟨(m : Int), 0⟩⟩ : S45)])) := ⟨Kd.R_mono (Kd.R_tight rfl hv) (fun j hj => (Option.some.inj (by simpa [Value.ownBlock] using hj)))⟩; have hll : xs.length < (xs ++ [(⟨⟨(k : Int), 0⟩, ⟨(m : Int), 0⟩⟩ : S45)]).length := (by simp); obtain ⟨zz, c1, f1⟩ : ∃ z, w8.cell? ⟨q, ln * 4 + 1, none⟩ = some (.int .i64 z) ∧ w8.frozen? ⟨q, ln * 4 + 1, none⟩ = false := ⟨_, by rw [HLN.out]; exact HRC.out.cell xs.length hll 1 (by omega)⟩; have HQ1 := Aside0.mk hq1; have hsl : (xs ++ [(⟨⟨(k : Int), 0⟩, ⟨(m : Int), 0⟩⟩ : S45)]).length = ln + 1 := (by rw [HLN.out]; simp); rw [hsl]; have HG8 : Aside0 (w7.grownBy w8 (Value.slice A ln c).ownBlock) := ⟨hg⟩; have HRL : Aside0 (∀ j, (Value.slice A ln c).ownBlock = some j → w.heap.size ≤ j ∧ j ≠ g ∧ j ≠ gm) := ⟨fun j hj => ⟨Kd.R_base HR7.out j hj, HR7.out.1 j hj⟩⟩; have hlnI : (ln : Int) < ((ln + 1 : Nat) : Int) := (by omega); clear hv hb hg hat hll hq1 hq2 hsl HR7))
    have hll : xs.length < (xs ++ [(⟨⟨(k : Int), 0⟩, ⟨(m : Int), 0⟩⟩ : S45)]).length := by simp
    have HRC9 : Aside0 (RC (w8.setCell ⟨q, ln * 4 + 1, none⟩ (.int .i64 ((k : Int) + 1))) w.heap.size q cp ((xs ++ [(⟨⟨(k : Int), 0⟩, ⟨(m : Int), 0⟩⟩ : S45)]).set xs.length (setF (xs ++ [(⟨⟨(k : Int), 0⟩, ⟨(m : Int), 0⟩⟩ : S45)])[xs.length] 1 ((k : Int) + 1)))) := ⟨by rw [HLN.out]; exact HRC.out.put xs.length hll 1 (by omega) ((k : Int) + 1)⟩
    have HG9 : Aside0 (w8.grownBy (w8.setCell ⟨q, ln * 4 + 1, none⟩ (.int .i64 ((k : Int) + 1))) (some q)) := ⟨grown_set _ _ _ _⟩
    have hst := step_new (m := m) HXE.out HTH.out HXS.out _ rfl hll
    have hfs : firsts r (k + 1) = firsts r k ++ [x] := by rw [firsts, if_neg (by rw [← HXE.out]; exact HTH.out), HXE.out]
    refine ⟨⟨k + 1, p1, by go_num, by omega, ⟨?_⟩, ⟨?_⟩, HP6, ⟨?_⟩, ⟨?_⟩, ⟨?_⟩⟩, by simp [intOf]; omega⟩
    ·have h8 : WV w8 B g n m N cap := (HG8.out.block _ (blk_lt HW7.out) (fun e => by have := (HRL.out B e.symm).1; have := HBW.out; omega)).trans HW7.out
     exact h8.grown HG9.out (by have := HQ1.out; have := HBW.out; omega)
    ·have h8 : LI w8 base g N cap p1 := Kd.R_grown (Kd.R_grown HV6.out HG7.out (fun j hj e => HNG.out ((Option.some.inj e).symm.trans hj))) HG8.out (fun j hj e => (HRL.out j e.symm).2.1 hj)
     exact h8.grown HG9.out HQG.out.1.symm
    ·rw [hfs]
     exact (HM7.out.kept HG8.out (fun e => (HRL.out gm e.symm).2.2 rfl)).kept HG9.out (fun e => HQG.out.2 (Option.some.inj e).symm)
    ·rw [hst]
     have hl2 : ((xs ++ [(⟨⟨(k : Int), 0⟩, ⟨(m : Int), 0⟩⟩ : S45)]).set xs.length (setF (xs ++ [(⟨⟨(k : Int), 0⟩, ⟨(m : Int), 0⟩⟩ : S45)])[xs.length] 1 ((k : Int) + 1))).length = ln + 1 := by rw [HLN.out]; simp
     rw [← hl2]
     exact Kd.R_mono HRC9.out (fun j hj => by rw [hj]; exact HQG.out)
    ·exact grown_row (grown_row (grown_row (World.grownBy.trans HG.out HG6.out) HG7.out (fun j hj => by have := Option.some.inj hj; have := HGM.out; omega)) HG8.out (fun j hj => (HRL.out j hj).1)) HG9.out (fun j hj => by have := Option.some.inj hj; have := HQ1.out; omega)
  ·have ek : k = n := by omega
   subst ek
   have HR2 : Aside0 (Kd.R k45 45 wr w.heap.size (fun q => q ≠ g ∧ q ≠ gm) (.slice A (List.map (toS ∘ clu1 r m k) (firsts r k)).length c) ((firsts r k).map (toS ∘ clu2 r k m 0))) := ⟨by have := HR.out; rwa [show (firsts r k).map (toS ∘ clu1 r m k) = (firsts r k).map (toS ∘ clu2 r k m 0) by rw [← List.map_map, clu2_start, List.map_map]] at this⟩
   rw [List.length_map] at HR2 ⊢
   obtain ⟨ln, hln⟩ : ∃ ln, ln = (firsts r k).length := ⟨_, rfl⟩
   rw [← hln] at HR2 ⊢
   have HLN := Aside0.mk hln
   clear hln HR
   have HSG : Aside0 (∀ j, (Value.slice A ln c).ownBlock = some j → w.heap.size ≤ j ∧ j ≠ g ∧ j ≠ gm) := ⟨fun j hj => ⟨Kd.R_base HR2.out j hj, HR2.out.1 j hj⟩⟩
   go_wp2_with fail
   go_loopw [61] (fun v wr => ∃ (t : Nat) (p : List Int), v = .int .i64 (t : Int) ∧ t ≤ m ∧ Aside0 (WV wr B g k m N cap) ∧ Aside0 (LI wr base g N cap p) ∧ Aside0 (PF N r p) ∧ Aside0 (MO wr gm k (firsts r k)) ∧ Aside0 (Kd.R k45 45 wr w.heap.size (fun q => q ≠ g ∧ q ≠ gm) (.slice A ln c) ((firsts r k).map (toS ∘ clu2 r k m t))) ∧ Aside0 (w.grownBy wr (some g))) (fun v _ => m - (intOf v).toNat)
   case atStart => exact ⟨0, p, rfl, Nat.zero_le _, HW, HV, HP, HM, HR2, HG⟩
   case round =>
    clear HW HV HP HM HR2 HG d0 d2 hlt
    obtain ⟨t, p, rfl, ht, HW, HV, HP, HM, HR, HG⟩ := hrel
    have d0 := HW.out.c0
    have d1 := HW.out.c1
    by_cases hlt : t < m
    ·have htI : (t : Int) < (m : Int) := by omega
     obtain ⟨i, hi⟩ : ∃ i, i = k + t := ⟨_, rfl⟩
     have hiN : i < N := by omega
     have e2 : IntKind.i64.wrap ((k : Int) + (t : Int)) = (i : Int) := by rw [IntWalk.i64_in _ (by omega)]; omega
     have HI := Aside0.mk hi
     obtain ⟨x, hx⟩ : ∃ x, x = r i := ⟨_, rfl⟩
     have hxN : x < N := by have := HO.out.le i hiN; omega
     have HX := Aside0.mk hx
     have hth : x ∈ firsts r k := by
      obtain ⟨j, hj, e⟩ := HIN.out t hlt
      exact (mem_firsts r k x).2 ⟨j, hj, by rw [hx, hi]; exact e⟩
     obtain ⟨ix, hix⟩ : ∃ ix, ix = (firsts r k).idxOf x := ⟨_, rfl⟩
     have hixl : ix < ln := by rw [HLN.out, hix]; exact List.idxOf_lt_length_of_mem hth
     have HIX := Aside0.mk hix
     have HTH := Aside0.mk hth
     have hixI : (ix : Int) < (ln : Int) := by omega
     clear hi hx hth hix
     have HVd : Aside0 (LI wr.drew base g N cap p) := ⟨Kd.R_drew HV.out⟩
     obtain ⟨q, cp, ev, hq1, hq2, _⟩ := Kd.R_form HR.out (by rw [List.length_map, ← HLN.out]; omega)
     injection ev with ev1 ev2 ev3
     clear ev2
     subst ev1 ev3
     have HQG : Aside0 (q ≠ g ∧ q ≠ gm) := ⟨HR.out.1 q (by simp [Value.ownBlock])⟩
     have HQ1 := Aside0.mk hq1
     clear hq1 hq2
     go_wp2_with fail
     refine start_ (n := 16) (S := (fun W => W.cell? ⟨B, 0, none⟩ = some (.slice (some ⟨g, 0, none⟩) N cap) ∧ W.cell? ⟨B, 1, none⟩ = some (.int .i64 k))) (ds := [12, 13]) #[false, false, false, false, false, false, false, false, false, false, false, false, false, false, false, false] (by kernel_rfl) (by kernel_rfl) (by rfl) (⟨d0, d1⟩) (fun hS0 => ?_)
     refine pure_ (i := 0) (N := (some 64)) (v := ?_) (a' := ?_) #[true, false, false, false, false, false, false, false, false, false, false, false, false, false, false, false] rfl rfl (by kernel_rfl) (fun _ _ _ h => h) (Or.inl ⟨by rfl, ?_⟩) ?_ ?_
     rotate_left
     ·intro w'
      go_simp
      with_reducible rfl
     rotate_left
     ·simp only [Act.put, List.setIfInBounds_toArray, List.set_cons_zero, List.set_cons_succ]
      rfl
     refine pure_ (i := 1) (N := (some 65)) (v := ?_) (a' := ?_) #[true, true, false, false, false, false, false, false, false, false, false, false, false, false, false, false] rfl rfl (by kernel_rfl) (fun _ _ _ h => h) (Or.inl ⟨by rfl, ?_⟩) ?_ ?_
     rotate_left
     ·intro w'
      go_simp
      with_reducible rfl
     rotate_left
     ·simp only [Act.put, List.setIfInBounds_toArray, List.set_cons_zero, List.set_cons_succ]
      rfl
     refine pure_ (i := 2) (N := (some 66)) (v := ?_) (a' := ?_) #[true, true, true, false, false, false, false, false, false, false, false, false, false, false, false, false] rfl rfl (by kernel_rfl) (fun _ _ _ h => h) (Or.inl ⟨by rfl, ?_⟩) ?_ ?_
     rotate_left
     ·intro w'
      go_simp
      with_reducible rfl
     rotate_left
     ·simp only [Act.put, List.setIfInBounds_toArray, List.set_cons_zero, List.set_cons_succ]
      rfl
     refine pure_ (i := 3) (N := (some 67)) (v := ?_) (a' := ?_) #[true, true, true, true, false, false, false, false, false, false, false, false, false, false, false, false] rfl rfl (by kernel_rfl) (fun _ _ _ h => h) (Or.inl ⟨by rfl, ?_⟩) ?_ ?_
     rotate_left
     ·intro w'
      go_simp
      with_reducible rfl
     rotate_left
     ·simp only [Act.put, List.setIfInBounds_toArray, List.set_cons_zero, List.set_cons_succ]
      rfl
     refine pure_ (i := 4) (N := (some 68)) (v := ?_) (a' := ?_) #[true, true, true, true, true, false, false, false, false, false, false, false, false, false, false, false] rfl rfl (by kernel_rfl) (fun _ _ _ h => h) (Or.inl ⟨by rfl, ?_⟩) ?_ ?_
     rotate_left
     ·intro w'
      go_simp
      with_reducible rfl
     rotate_left
     ·simp only [Act.put, List.setIfInBounds_toArray, List.set_cons_zero, List.set_cons_succ]
      rfl
     refine take_ (i := 5) (N := (some 69)) (v := ?_) (a' := ?_) #[true, true, true, true, true, true, false, false, false, false, false, false, false, false, false, false] rfl rfl (by kernel_rfl) (fun _ _ _ h => h) (Or.inl ⟨by rfl, ?_⟩) hS0 ?_ ?_
     rotate_left
     ·intro w' s0
      obtain ⟨hx0, hx1⟩ := s0
      go_simp
      with_reducible rfl
     rotate_left
     ·simp only [Act.put, List.setIfInBounds_toArray, List.set_cons_zero, List.set_cons_succ]
      rfl
     refine pure_ (i := 6) (N := (some 70)) (v := ?_) (a' := ?_) #[true, true, true, true, true, true, true, false, false, false, false, false, false, false, false, false] rfl rfl (by kernel_rfl) (fun _ _ _ h => h) (Or.inl ⟨by rfl, ?_⟩) ?_ ?_
     rotate_left
     ·intro w'
      go_simp
      with_reducible rfl
     rotate_left
     ·simp only [Act.put, List.setIfInBounds_toArray, List.set_cons_zero, List.set_cons_succ]
      rfl
     refine pure_ (i := 7) (N := (some 71)) (v := ?_) (a' := ?_) #[true, true, true, true, true, true, true, true, false, false, false, false, false, false, false, false] rfl rfl (by kernel_rfl) (fun _ _ _ h => h) (Or.inl ⟨by rfl, ?_⟩) ?_ ?_
     rotate_left
     ·intro w'
      go_simp
      with_reducible rfl
     rotate_left
     ·simp only [Act.put, List.setIfInBounds_toArray, List.set_cons_zero, List.set_cons_succ]
      rfl
     refine pure_ (i := 8) (N := (some 72)) (v := ?_) (a' := ?_) #[true, true, true, true, true, true, true, true, true, false, false, false, false, false, false, false] rfl rfl (by kernel_rfl) (fun _ _ _ h => h) (Or.inl ⟨by rfl, ?_⟩) ?_ ?_
     rotate_left
     ·intro w'
      go_simp
      with_reducible rfl
     rotate_left
     ·simp only [Act.put, List.setIfInBounds_toArray, List.set_cons_zero, List.set_cons_succ]
      rfl
     refine take_ (i := 9) (N := (some 73)) (v := ?_) (a' := ?_) #[true, true, true, true, true, true, true, true, true, true, false, false, false, false, false, false] rfl rfl (by kernel_rfl) (fun _ _ _ h => h) (Or.inl ⟨by rfl, ?_⟩) hS0 ?_ ?_
     rotate_left
     ·intro w' s0
      obtain ⟨hx0, hx1⟩ := s0
      go_simp
      with_reducible rfl
     rotate_left
     ·simp only [Act.put, List.setIfInBounds_toArray, List.set_cons_zero, List.set_cons_succ]
      rfl
     refine pure_ (i := 10) (N := (some 74)) (v := ?_) (a' := ?_) #[true, true, true, true, true, true, true, true, true, true, true, false, false, false, false, false] rfl rfl (by kernel_rfl) (fun _ _ _ h => h) (Or.inl ⟨by rfl, ?_⟩) ?_ ?_
     rotate_left
     ·intro w'
      go_simp
      with_reducible rfl
     rotate_left
     ·simp only [Act.put, List.setIfInBounds_toArray, List.set_cons_zero, List.set_cons_succ]
      rfl
     refine pure_ (i := 11) (N := (some 75)) (v := ?_) (a' := ?_) #[true, true, true, true, true, true, true, true, true, true, true, true, false, false, false, false] rfl rfl (by kernel_rfl) (fun _ _ _ h => h) (Or.inl ⟨by rfl, ?_⟩) ?_ ?_
     rotate_left
     ·intro w'
      go_simp
      with_reducible rfl
     rotate_left
     ·simp only [Act.put, List.setIfInBounds_toArray, List.set_cons_zero, List.set_cons_succ]
      rfl
     clear hS0
     refine last_ (i := 12) (N := (some 76)) #[true, true, true, true, true, true, true, true, true, true, true, true, true, false, false, false] rfl rfl (by kernel_rfl) (by decide) (fun K hK => ?_)
     refine goes_ Try.func86 (by kernel_rfl) rfl #[.slice (some ⟨g, 0, none⟩) N cap, .int .i64 i] (by rfl) rfl rfl (by go_simp; done) ?_
     refine (find_c HVd.out HP.out (by omega) i hiN).mono ?_
     rintro e w6 ⟨p1, rfl, a1, a2, a3⟩
     refine ⟨_, rfl, ?_⟩
     rw [← HX.out]
     have HV6 := Aside0.mk a1
     have HP6 := Aside0.mk a2
     have HG6 : Aside0 (wr.grownBy w6 (some g)) := ⟨World.grownBy.trans (below_grownBy (below_drew (Below.refl _ _)) _) a3⟩
     clear a1 a2 a3 HV HVd HP
     change K (Act.put _ (some 76) _) _
     refine hK.out _ _ ?_
     clear hK
     refine norm_ (a' := ?_) ?_ ?_
     rotate_left
     ·simp only [Act.put, List.setIfInBounds_toArray, List.set_cons_zero, List.set_cons_succ]
      rfl
     refine last_ (i := 13) (N := (some 77)) #[true, true, true, true, true, true, true, true, true, true, true, true, true, true, false, false] rfl rfl (by kernel_rfl) (by decide) (fun K hK => ?_)
     have hlk := (HM.out.kept HG6.out (fun e => HNG.out (Option.some.inj e))).lookup x (by omega) HTH.out
     rw [← HIX.out] at hlk
     refine value_ (w1 := w6) (v := .int .i64 ix) (by rfl) rfl (by unfold execOp; simp [hlk, Act.eval]) ?_
     change K (Act.put _ (some 77) _) _
     refine hK.out _ _ ?_
     clear hK
     refine norm_ (a' := ?_) ?_ ?_
     rotate_left
     ·simp only [Act.put, List.setIfInBounds_toArray, List.set_cons_zero, List.set_cons_succ]
      rfl
     refine pure_ (i := 14) (N := (some 78)) (v := ?_) (a' := ?_) #[true, true, true, true, true, true, true, true, true, true, true, true, true, true, true, false] rfl rfl (by kernel_rfl) (fun _ _ _ h => h) (Or.inl ⟨by rfl, ?_⟩) ?_ ?_
     rotate_left
     ·intro w'
      go_simp
      with_reducible rfl
     rotate_left
     ·simp only [Act.put, List.setIfInBounds_toArray, List.set_cons_zero, List.set_cons_succ]
      rfl
     refine pure_ (i := 15) (N := (some 10)) (v := ?_) (a' := ?_) #[true, true, true, true, true, true, true, true, true, true, true, true, true, true, true, true] rfl rfl (by kernel_rfl) (fun _ _ _ h => h) (Or.inl ⟨by rfl, ?_⟩) ?_ ?_
     rotate_left
     ·intro w'
      go_simp
      with_reducible rfl
     rotate_left
     ·simp only [Act.put, List.setIfInBounds_toArray, List.set_cons_zero, List.set_cons_succ]
      rfl
     refine done_ (by kernel_rfl) ?_
     obtain ⟨xs, hxs⟩ : ∃ xs, xs = (firsts r k).map (toS ∘ clu2 r k m t) := ⟨_, rfl⟩
     have hlen : xs.length = ln := by rw [hxs, List.length_map, HLN.out]
     have HXS := Aside0.mk hxs
     have HLEN := Aside0.mk hlen
     have HRC6 : Aside0 (RC w6 w.heap.size q c xs) := ⟨by
      have h6 := Kd.R_grown HR.out HG6.out (fun j hj e => hj.1 (Option.some.inj e))
      rw [← hxs, ← hlen] at h6
      exact Kd.R_mono (Kd.R_tight rfl h6) (fun j hj => (Option.some.inj (by simpa [Value.ownBlock] using hj)))⟩
     have hxi : ix < xs.length := by omega
     obtain ⟨o1, ho1⟩ : ∃ o1, o1 = (out2 r k m x t).1 := ⟨_, rfl⟩
     have HO1 := Aside0.mk ho1
     have hf2 : fld xs[ix] 2 = (o1 : Int) := by
      have : xs[ix] = toS (clu2 r k m t x) := by
       have hix := HIX.out
       subst hxs hix
       rw [List.getElem_map, List.getElem_idxOf]; rfl
      rw [this, ho1]; rfl
     obtain ⟨c2, f2⟩ := HRC6.out.cell ix hxi 2 (by omega)
     rw [hf2] at c2
     obtain ⟨c3, f3⟩ := HRC6.out.cell ix hxi 3 (by omega)
     generalize fld xs[ix] 3 = z3 at c3
     clear hxs hlen ho1 hf2
     by_cases hlo : o1 ≤ t
     ·have hloI : (o1 : Int) ≤ (t : Int) := by omega
      have hloJ : ¬ (t : Int) < (o1 : Int) := by omega
      go_wp2_with fail
      have HP2 := HRC6.out.put2 ix hxi (o1 : Int) ((t : Int) + 1)
      have hg7 : w6.grownBy ((w6.setCell ⟨q, ix * 4 + 2, none⟩ (.int .i64 (o1 : Int))).setCell ⟨q, ix * 4 + 2 + 1, none⟩ (.int .i64 ((t : Int) + 1))) (some q) := World.grownBy.trans (grown_set _ _ _ _) (grown_set _ _ _ _)
      have hst := step_out hlt HI.out HX.out HTH.out HXS.out HIX.out HO1.out hxi (o1 : Int) (by omega)
      refine ⟨⟨t + 1, p1, by go_num, by omega, ⟨(HW.out.grown HG6.out hne).grown hg7 (by have := HQ1.out; have := HBW.out; omega)⟩, ⟨HV6.out.grown hg7 HQG.out.1.symm⟩, HP6, ⟨(HM.out.kept HG6.out (fun e => HNG.out (Option.some.inj e))).kept hg7 (fun e => HQG.out.2 (Option.some.inj e).symm)⟩, ⟨?_⟩, ⟨grown_row (World.grownBy.trans HG.out HG6.out) hg7 (fun j hj => by have := Option.some.inj hj; have := HQ1.out; omega)⟩⟩, by simp [intOf]; omega⟩
      rw [hst]
      unfold RC at HP2
      rw [List.length_set, HLEN.out] at HP2
      exact Kd.R_mono HP2 (fun j hj => by rw [hj]; exact HQG.out)
     ·have hloI : (t : Int) < (o1 : Int) := by omega
      have hloJ : ¬ (o1 : Int) ≤ (t : Int) := by omega
      go_wp2_with fail
      have HP2 := HRC6.out.put2 ix hxi (t : Int) ((t : Int) + 1)
      have hg7 : w6.grownBy ((w6.setCell ⟨q, ix * 4 + 2, none⟩ (.int .i64 (t : Int))).setCell ⟨q, ix * 4 + 2 + 1, none⟩ (.int .i64 ((t : Int) + 1))) (some q) := World.grownBy.trans (grown_set _ _ _ _) (grown_set _ _ _ _)
      have hst := step_out hlt HI.out HX.out HTH.out HXS.out HIX.out HO1.out hxi (t : Int) (by omega)
      refine ⟨⟨t + 1, p1, by go_num, by omega, ⟨(HW.out.grown HG6.out hne).grown hg7 (by have := HQ1.out; have := HBW.out; omega)⟩, ⟨HV6.out.grown hg7 HQG.out.1.symm⟩, HP6, ⟨(HM.out.kept HG6.out (fun e => HNG.out (Option.some.inj e))).kept hg7 (fun e => HQG.out.2 (Option.some.inj e).symm)⟩, ⟨?_⟩, ⟨grown_row (World.grownBy.trans HG.out HG6.out) hg7 (fun j hj => by have := Option.some.inj hj; have := HQ1.out; omega)⟩⟩, by simp [intOf]; omega⟩
      rw [hst]
      unfold RC at HP2
      rw [List.length_set, HLEN.out] at HP2
      exact Kd.R_mono HP2 (fun j hj => by rw [hj]; exact HQG.out)
    ·have et : t = m := by omega
     subst et
     have HEND : Aside0 ((firsts r k).map (toS ∘ clu2 r k t t) = cluS k t r k) := ⟨by rw [← List.map_map, clu2_end HBT.out HOUT.out]; rfl⟩
     go_wp2_with fail
     go_ret
     exact ⟨_, rfl, by rw [← HEND.out]; exact Kd.R_mono HR.out (fun _ _ => trivial), HG.out⟩
end Go.Proofs.Ytohhobcipfmkbaa.CFin
end
section
namespace Go.Proofs.Ytohhobcipfmkbaa.CFin
open Go.RowKit Go.Maps Go.Proofs.YtohhobcipfmkbaaW.PrintWords Go.Proofs.YtohhobcipfmkbaaW.PrintMore Go.Proofs.YtohhobcipfmkbaaW.PrintLast Go.Proofs.Ytohhobcipfmkbaa.U Go.Proofs.Ytohhobcipfmkbaa.PClusterFinest Go.Proofs.Ytohhobcipfmkbaa.UFinest Go.Proofs.Ytohhobcipfmkbaa.UFinEv
theorem wrong_ok {n m : Nat} {l : List S45} (hn : 0 < n) (hm : 0 < m) (hw : wrongR n m l = 0) : (∀ x ∈ l, LinkOk n m x) ∧ ∀ i, i < m → outB l i = true := by
 unfold wrongR at hw
 split at hw
 ·cases hw
 ·split at hw
  ·rename_i h1 h2
   refine ⟨fun x hx => ?_, ?_⟩
   ·have := List.all_eq_true.1 h2 x hx
    unfold okB fitB at this
    simp only [Bool.and_eq_true, decide_eq_true_eq] at this
    exact ⟨this.1.1.1, this.1.1.2, this.1.2, this.2.1.1, this.2.1.2, this.2.2⟩
   ·unfold wrongIn at hw
    rw [if_neg (by omega), if_neg (by omega), Int.toNat_natCast] at hw
    split at hw
    ·rename_i h3
     intro i hi
     exact List.all_eq_true.1 h3 i (List.mem_range.2 hi)
    ·cases hw
  ·cases hw
theorem outB_met {m : Nat} {l : List S45} (hl : ∀ x ∈ l, 0 ≤ x.f1.f0) (hc : ∀ i, i < m → outB l i = true) (i : Nat) (hi : i < m) : ∃ x ∈ l.map lkOf, x.c ≤ i ∧ i < x.d := by
 have := hc i hi
 unfold outB at this
 obtain ⟨x, hx, h⟩ := List.any_eq_true.1 this
 simp only [Bool.and_eq_true, decide_eq_true_eq] at h
 have := hl x hx
 exact ⟨lkOf x, List.mem_map.2 ⟨x, hx, rfl⟩, by unfold lkOf; dsimp only; omega, by unfold lkOf; dsimp only; omega⟩
theorem lk_wf {n m : Nat} {l : List S45} (h : ∀ x ∈ l, LinkOk n m x) : (∀ x ∈ l.map lkOf, x.a < x.b ∧ x.c < x.d) ∧ (∀ x ∈ l.map lkOf, x.a < x.b ∧ x.b ≤ n) ∧ ∀ x ∈ l.map lkOf, x.d ≤ m := by
 have key : ∀ x ∈ l.map lkOf, (x.a < x.b ∧ x.b ≤ n) ∧ (x.c < x.d ∧ x.d ≤ m) := fun x hx => by
  obtain ⟨z, hz, rfl⟩ := List.mem_map.1 hx
  have h := h z hz
  have := h.a0; have := h.ab; have := h.bn; have := h.c0; have := h.cd; have := h.dm
  unfold lkOf; dsimp only; omega
 exact ⟨fun x hx => ⟨(key x hx).1.1, (key x hx).2.1⟩, fun x hx => (key x hx).1, fun x hx => (key x hx).2.2⟩
theorem first_lt {n m : Nat} {l : List S45} (hn : 0 < n) (hm : 0 < m) (h : ∀ x ∈ l, LinkOk n m x) (hc : ∀ i, i < m → outB l i = true) : firstF (l.map lkOf) n < n := by
 obtain ⟨x, hx, _, _⟩ := outB_met (fun x hx => (h x hx).c0) hc 0 hm
 have hw := (lk_wf h).2.1 x hx
 unfold firstF
 have := List.findIdx_lt_length_of_exists (xs := List.range n) (p := linkedB (l.map lkOf)) ⟨x.a, List.mem_range.2 (by omega), by
  unfold linkedB
  rw [List.any_eq_true]
  exact ⟨x, hx, by simp; omega⟩⟩
 simpa using this
theorem labOk_linkF {n N : Nat} {r : Lab} (h : LabOk N r) (x : Lk) (h1 : x.a < x.b) (h2 : x.b ≤ n) (h3 : x.c < x.d) (h4 : n + x.d ≤ N) : LabOk N (linkF n r x) := by
 unfold linkF
 exact (labOk_allF (labOk_allF h _ _ (by omega)) _ _ (by omega)).merge _ _ (by omega) (by omega)
theorem labOk_links {n N : Nat} (l : List Lk) (hl : ∀ x ∈ l, x.a < x.b ∧ x.b ≤ n ∧ x.c < x.d ∧ n + x.d ≤ N) : ∀ r, LabOk N r → LabOk N (linksF n r l) := by
 induction l with
 | nil => intro r h; exact h
 | cons x l ih =>
  intro r h
  obtain ⟨h1, h2, h3, h4⟩ := hl x List.mem_cons_self
  exact ih (fun y hy => hl y (List.mem_cons_of_mem _ hy)) _ (labOk_linkF h x h1 h2 h3 h4)
theorem labOk_stray {n N : Nat} (l : List Lk) (hf : firstF l n < n) (hN : n ≤ N) (k : Nat) (hk : k ≤ n) : ∀ r, LabOk N r → LabOk N (strayF l n r k) := by
 induction k with
 | zero => intro r h; exact h
 | succ k ih =>
  intro r h
  have h := ih (by omega) r h
  show LabOk N (if linkedB l k then strayF l n r k else if firstF l n < k then merge (strayF l n r k) (k - 1) k else merge (strayF l n r k) k (k + 1))
  split
  ·exact h
  ·rename_i h0
   split
   ·exact h.merge _ _ (by omega) (by omega)
   ·refine h.merge _ _ (by omega) ?_
    rename_i h1
    have : k ≠ firstF l n := fun e => h0 (by rw [e]; exact first_linked l n hf)
    omega
set_option maxRecDepth 100000 in
set_option maxHeartbeats 2000000 in
theorem finest_bad {w : World} {v : Value} {l : List S45} (n m : Int) (h : SLk k45 w v l) (hl : l.length ≤ 1000000) (hb : wrongR n m l ≠ 0 ∨ n = 0) :
 Calls Try.prog 32 #[.int .i64 n, .int .i64 m, v] w fun e w' => e = .returned (.tuple #[.slice none 0 0, .int .i64 (wrongR n m l)]) ∧ Below w.heap.size w w' := by
 have H := Aside0.mk h
 obtain ⟨A, c, rfl, _, _⟩ := h
 obtain ⟨r, hr⟩ : ∃ r, r = wrongR n m l := ⟨_, rfl⟩
 rw [← hr] at hb ⊢
 have HR := Aside0.mk hr; clear hr
 go_enter Try.func32, Try.ntmps32
 by_cases h0 : r = 0
 ·subst h0
  obtain rfl : n = 0 := by rcases hb with h | h; exact absurd rfl h; exact h
  clear hb
  go_wp2_with (go_at_call 58; refine (may_c 0 m H.out hl).mono ?_; rintro e w1 ⟨rfl, hb1⟩; rw [← HR.out]; have HB1 := Aside0.mk hb1; clear hb1)
  refine bodyPost_ret (results_tmp2 rfl _ _ _) rfl ?_
  exact ⟨rfl, HB1.out⟩
 ·clear hb
  go_wp2_with (go_at_call 58; refine (may_c n m H.out hl).mono ?_; rintro e w1 ⟨rfl, hb1⟩; rw [← HR.out]; have HB1 := Aside0.mk hb1; clear hb1)
  refine bodyPost_ret (results_tmp2 rfl _ _ _) rfl ?_
  exact ⟨rfl, HB1.out⟩
set_option maxRecDepth 100000 in
set_option maxHeartbeats 2000000 in
theorem finest_c {w : World} {v : Value} {l : List S45} (n m : Nat) (h : SLk k45 w v l) (hl : l.length ≤ 5000) (hn : 0 < n) (hm : 0 < m) (hnm : n + m ≤ 1000) (hw : wrongR n m l = 0) :
 Calls Try.prog 32 #[.int .i64 n, .int .i64 m, v] w fun e w' => ∃ (u : Value) (L : Lab), e = .returned (.tuple #[u, .int .i64 0]) ∧ FinOk n m (l.map lkOf) L ∧ Kd.R k45 45 w' w.heap.size (fun _ => True) u (cluS n m L n) ∧ Below w.heap.size w w' := by
 have H := Aside0.mk h
 obtain ⟨A, c, rfl, hcc, hC⟩ := h
 have HC := Aside0.mk hC
 have HW := Aside0.mk hw
 obtain ⟨hlk, hcov⟩ := wrong_ok hn hm hw
 have HLK := Aside0.mk hlk
 have HCOV := Aside0.mk hcov
 have HF := Aside0.mk (first_lt hn hm hlk hcov)
 obtain ⟨N, hN⟩ : ∃ N, N = n + m := ⟨_, rfl⟩
 have e0 : IntKind.i64.wrap ((n : Int) + (m : Int)) = (N : Int) := by rw [IntWalk.i64_in _ (by omega)]; omega
 have hn0 : ¬ (n : Int) = 0 := by omega
 have hNN : N ≤ 1000 := by omega
 have HNM := Aside0.mk hN
 clear hw hlk hcov hC hcc hnm hN
 go_enter Try.func32, Try.ntmps32
 go_wp2_with (first | (go_at_call 58; refine (may_c n m H.out (by omega)).mono ?_; rintro e w1 ⟨rfl, hb1⟩; rw [HW.out]; have HB1 := Aside0.mk hb1; clear hb1) | (go_at_call 59; refine (alone_c N (by omega)).mono ?_; rintro e w2 ⟨g, cap, p, rfl, a1, a2, a3⟩; have HV2 := Aside0.mk a1; have HP2 := Aside0.mk a2; have HGB := Aside0.mk (Nat.le_trans HB1.out.size a1.lt); have HB2 : Aside0 (Below w.heap.size w w2) := ⟨below_step HB1.out a3⟩; clear a1 a2 a3 HB1) | ((with_reducible refine gate_dst (N := 35) rfl ?_); refine box_event ?hg (N := 35) ?hd (cs := #[.slice (some ⟨g, 0, none⟩) N cap, .int .i64 n, .int .i64 m]) (t := 87) ?hr ?_; (case hd => rfl); (case hg => rfl); (case hr => first | (go_simp; done) | (go_simp; rfl)); intro B hg w3 hbox hb; have HW3 : Aside0 (WV w3 B g n m N cap) := ⟨hbox⟩; have HV3 := Aside0.mk (HV2.out.below hb); have HNE : Aside0 (B ≠ g) := ⟨by have := HV2.out.ltw; omega⟩; have HBB : Aside0 (w.heap.size ≤ B) := ⟨by rw [hg]; exact HB2.out.size⟩; have HB3 : Aside0 (Below w.heap.size w w3) := ⟨below_step HB2.out hb⟩; clear hg hbox hb HV2 HB2))
 obtain ⟨w2base, hwb⟩ : ∃ b, b = w1.heap.size := ⟨_, rfl⟩
 rw [← hwb] at HV3
 clear hwb
 go_loopw [38] (fun v wr => ∃ (k : Nat) (p : List Int), v = .int .i64 (k : Int) ∧ k ≤ l.length ∧ Aside0 (WV wr B g n m N cap) ∧ Aside0 (LI wr w2base g N cap p) ∧ Aside0 (PF N (linksF n idL ((l.take k).map lkOf)) p) ∧ Aside0 (Below w.heap.size w wr)) (fun v _ => l.length - (intOf v).toNat)
 case atStart => exact ⟨0, p, rfl, Nat.zero_le _, HW3, HV3, HP2, HB3⟩
 case round =>
  clear HW3 HV3 HP2 HB3
  obtain ⟨k, p, rfl, hk, HW, HV, HP, HB⟩ := hrel
  have HO : Aside0 (LabOk N (linksF n idL ((l.take k).map lkOf))) := ⟨labOk_links _ (fun x hx => by
   obtain ⟨z, hz, rfl⟩ := List.mem_map.1 hx
   have hz' := List.mem_of_mem_take hz
   have hk1 := (lk_wf HLK.out).2.1 _ (List.mem_map.2 ⟨z, hz', rfl⟩)
   have hk2 := (lk_wf HLK.out).1 _ (List.mem_map.2 ⟨z, hz', rfl⟩)
   have hk3 := (lk_wf HLK.out).2.2 _ (List.mem_map.2 ⟨z, hz', rfl⟩)
   have := HNM.out
   exact ⟨hk1.1, hk1.2, hk2.2, by omega⟩) _ (labOk_id N)⟩
  by_cases hlt : k < l.length
  ·obtain ⟨ad, ead, c0, c1, c2, c3⟩ := at_T45 (Kd.C_below HC.out HB.out) (k : Int) (by omega) (by omega)
   rw [rd45 hlt, Int.toNat_natCast] at c0 c1 c2 c3
   have hx := HLK.out _ (List.getElem_mem hlt)
   obtain ⟨a, ha⟩ : ∃ a : Nat, l[k].f0.f0 = (a : Int) := ⟨l[k].f0.f0.toNat, by have := hx.a0; omega⟩
   obtain ⟨b, hb⟩ : ∃ b : Nat, l[k].f0.f1 = (b : Int) := ⟨l[k].f0.f1.toNat, by have := hx.a0; have := hx.ab; omega⟩
   obtain ⟨d, hd⟩ : ∃ d : Nat, l[k].f1.f0 = (d : Int) := ⟨l[k].f1.f0.toNat, by have := hx.c0; omega⟩
   obtain ⟨e, he⟩ : ∃ e : Nat, l[k].f1.f1 = (e : Int) := ⟨l[k].f1.f1.toNat, by have := hx.c0; have := hx.cd; omega⟩
   have k1 := hx.ab; have k2 := hx.bn; have k3 := hx.cd; have k4 := hx.dm
   rw [ha] at c0 k1; rw [hb] at c1 k1 k2; rw [hd] at c2 k3; rw [he] at c3 k3 k4
   have HLE : Aside0 (linksF n idL ((l.take (k + 1)).map lkOf) = linkF n (linksF n idL ((l.take k).map lkOf)) ⟨a, b, d, e⟩) := ⟨by
    rw [List.take_succ_eq_append_getElem hlt, List.map_append]
    unfold linksF
    rw [List.foldl_append]
    have : lkOf l[k] = ⟨a, b, d, e⟩ := by unfold lkOf; rw [ha, hb, hd, he]; rfl
    simp [this]⟩
   have hkI : (k : Int) < (l.length : Int) := by omega
   have q1 : a < b := by omega
   have q2 : b ≤ n := by omega
   have q3 : d < e := by omega
   have q4 : e ≤ m := by omega
   subst ead
   clear hx ha hb hd he k1 k2 k3 k4
   go_upto_region 8 with (first | ((with_reducible refine gate_dst (N := 11) rfl ?_); refine box_event ?hg (N := 11) ?hd (cs := #[.int .i64 0, .int .i64 0, .int .i64 0, .int .i64 0]) (t := 45) ?hr ?_; (case hd => rfl); (case hg => rfl); (case hr => first | (go_simp; done) | (go_simp; rfl)); intro gb hg w6 hbox hb; have HX6 := Aside0.mk hbox; have HGE : Aside0 (w.heap.size ≤ gb) := ⟨by rw [hg]; exact HB.out.size⟩; have HN1 : Aside0 (g ≠ gb) := ⟨by have := HV.out.ltw; omega⟩; have HN2 : Aside0 (B ≠ gb) := ⟨by have := blk_lt HW.out; omega⟩; have HB6 : Aside0 (Below w.heap.size w w6) := ⟨below_step HB.out hb⟩; have HV6 : Aside0 (LI w6 w2base g N cap p) := ⟨HV.out.below hb⟩; have HW6 : Aside0 (WV w6 B g n m N cap) := ⟨HW.out.below hb⟩; have z0 : w6.cell? ⟨gb, 0, none⟩ = some (.int .i64 0) := (blk_cell hbox 0).trans rfl; have z1 : w6.cell? ⟨gb, 1, none⟩ = some (.int .i64 0) := (blk_cell hbox 1).trans rfl; have z2 : w6.cell? ⟨gb, 2, none⟩ = some (.int .i64 0) := (blk_cell hbox 2).trans rfl; have z3 : w6.cell? ⟨gb, 3, none⟩ = some (.int .i64 0) := (blk_cell hbox 3).trans rfl; have f0 := blk_frozen hbox 0; have f1 := blk_frozen hbox 1; have f2 := blk_frozen hbox 2; have f3 := blk_frozen hbox 3; clear hg hbox hb HB HV HW))
   have HX := Aside0.mk (blk_put (blk_put (blk_put (blk_put HX6.out 0 (.int .i64 a) rfl) 1 (.int .i64 b) rfl) 2 (.int .i64 d) rfl) 3 (.int .i64 e) rfl)
   have HG7 := Aside0.mk (World.grownBy.trans (World.grownBy.trans (World.grownBy.trans (grown_set w6 gb 0 (.int .i64 a)) (grown_set _ gb 1 (.int .i64 b))) (grown_set _ gb 2 (.int .i64 d))) (grown_set _ gb 3 (.int .i64 e)))
   generalize (((w6.setCell ⟨gb, 0, none⟩ (.int .i64 a)).setCell ⟨gb, 1, none⟩ (.int .i64 b)).setCell ⟨gb, 2, none⟩ (.int .i64 d)).setCell ⟨gb, 3, none⟩ (.int .i64 e) = w7 at HX HG7 ⊢
   have HV7 : Aside0 (LI w7 w2base g N cap p) := ⟨HV6.out.grown HG7.out HN1.out⟩
   have HW7 : Aside0 (WV w7 B g n m N cap) := ⟨HW6.out.grown HG7.out HN2.out⟩
   have HB7 : Aside0 (Below w.heap.size w w7) := ⟨HB6.out.grown HG7.out HB6.out.size (fun j hj => by obtain rfl := Option.some.inj hj; exact HGE.out)⟩
   have q0' := (blk_cell HX.out 0).trans rfl
   have q1' := (blk_cell HX.out 1).trans rfl
   have q2' := (blk_cell HX.out 2).trans rfl
   have q3' := (blk_cell HX.out 3).trans rfl
   clear z0 z1 z2 z3 f0 f1 f2 f3 HX6 HB6 HV6 HW6 c0 c1 c2 c3
   go_wp2_with (first | (go_at_call 60; refine (link_c HW7.out HV7.out HNE.out HP.out HO.out (by omega) ⟨a, b, d, e⟩ q1 q2 q3 q4 HNM.out.symm).mono ?_; rintro e8 w8 ⟨rfl, p8, a1, a2, a3⟩; have HV8 := Aside0.mk a1; have HP8 := Aside0.mk a2; have HG8 := Aside0.mk a3; clear a1 a2 a3))
   exact ⟨⟨k + 1, p8, by go_num, by omega, ⟨HW7.out.grown HG8.out HNE.out⟩, HV8, ⟨by rw [HLE.out]; exact HP8.out⟩, ⟨HB7.out.grown HG8.out HB7.out.size (fun j hj => by obtain rfl := Option.some.inj hj; exact HGB.out)⟩⟩, by simp [intOf]; omega⟩
  ·have ek : k = l.length := by omega
   subst ek
   rw [List.take_length] at HP HO
   obtain ⟨r0, hr0⟩ : ∃ r0, r0 = strayF (l.map lkOf) n (linksF n idL (l.map lkOf)) n := ⟨_, rfl⟩
   have HO5 : Aside0 (LabOk N r0) := ⟨by rw [hr0]; exact labOk_stray _ HF.out (by have := HNM.out; omega) n (Nat.le_refl _) _ HO.out⟩
   have HR0 := Aside0.mk hr0
   clear hr0 hlt
   have HCW : Aside0 (Kd.C k45 wr A l.length l) := ⟨Kd.C_below HC.out HB.out⟩
   have e5 : IntKind.i64.wrap ((n : Int) + (m : Int)) = (N : Int) := e0
   go_wp2_with (first | (go_at_call 61; refine (stray_c HW.out HV.out HNE.out HP.out HO.out (by omega) HNM.out.symm hm HCW.out hl HLK.out HF.out).mono ?_; rintro e8 w5 ⟨rfl, p5, a1, a2, a3⟩; rw [← HR0.out] at a2; have HV5 := Aside0.mk a1; have HP5 := Aside0.mk a2; have HW5 := Aside0.mk (HW.out.grown a3 HNE.out); have HB5 : Aside0 (Below w.heap.size w w5) := ⟨HB.out.grown a3 HB.out.size (fun j hj => by obtain rfl := Option.some.inj hj; exact HGB.out)⟩; clear a1 a2 a3 HV HP HW HB HCW HO) | ((with_reducible refine gate_dst (N := 12) rfl ?_); refine box_event ?hg (N := 12) ?hd (cs := #[.int .i64 0, .int .i64 0]) (t := 33) ?hr ?_; (case hd => rfl); (case hg => rfl); (case hr => first | (go_simp; done) | (go_simp; rfl)); intro gi hgi w6 hbox hb; have HI6 := Aside0.mk hbox; have HV6 := Aside0.mk (HV5.out.below hb); have HW6 := Aside0.mk (HW5.out.below hb); have HB6 : Aside0 (Below w.heap.size w w6) := ⟨below_step HB5.out hb⟩; have HGI : Aside0 (g ≠ gi ∧ B ≠ gi ∧ w.heap.size ≤ gi) := ⟨by have := HV5.out.ltw; omega, by have := blk_lt HW5.out; omega, by rw [hgi]; exact HB5.out.size⟩; clear hgi hbox hb HV5 HW5 HB5) | ((with_reducible refine gate_dst (N := 13) rfl ?_); refine box_event ?hg (N := 13) ?hd (cs := #[.int .i64 0, .int .i64 0]) (t := 33) ?hr ?_; (case hd => rfl); (case hg => rfl); (case hr => first | (go_simp; done) | (go_simp; rfl)); intro go hgo w7 hbox hb; have HO7 := Aside0.mk hbox; have HI7 : Aside0 (w7.heap[gi]? = some (.cells #[.int .i64 0, .int .i64 0] 33 (0, 0))) := ⟨(hb.block _ (blk_lt HI6.out)).trans HI6.out⟩; have HV7 := Aside0.mk (HV6.out.below hb); have HW7 := Aside0.mk (HW6.out.below hb); have HB7 : Aside0 (Below w.heap.size w w7) := ⟨below_step HB6.out hb⟩; have HGO : Aside0 (g ≠ go ∧ B ≠ go ∧ w.heap.size ≤ go ∧ gi ≠ go) := ⟨by have := HV6.out.ltw; omega, by have := blk_lt HW6.out; omega, by rw [hgo]; exact HB6.out.size, by have := blk_lt HI6.out; omega⟩; have z0 := (blk_cell HI7.out 0).trans rfl; have z1 := (blk_cell HI7.out 1).trans rfl; have f0 := blk_frozen HI7.out 0; have f1 := blk_frozen HI7.out 1; have y0 := (blk_cell hbox 0).trans rfl; have y1 := (blk_cell hbox 1).trans rfl; have g0 := blk_frozen hbox 0; have g1 := blk_frozen hbox 1; have hgio : ¬ gi = go := HGO.out.2.2.2; have hgoi : ¬ go = gi := fun e => hgio e.symm; clear hgo hbox hb HV6 HW6 HB6 HI6))
   have hI8 := blk_put (blk_put HI7.out 0 (.int .i64 0) rfl) 1 (.int .i64 n) rfl
   have hG78 := World.grownBy.trans (grown_set w7 gi 0 (.int .i64 0)) (grown_set _ gi 1 (.int .i64 n))
   have hO8 := (hG78.block go (blk_lt HO7.out) (fun e => hgoi (Option.some.inj e))).trans HO7.out
   have hV8 := HV7.out.grown hG78 HGI.out.1
   have hW8 := HW7.out.grown hG78 HGI.out.2.1
   have hB8 : Below w.heap.size w _ := HB7.out.grown hG78 HB7.out.size (fun j hj => by obtain rfl := Option.some.inj hj; exact HGI.out.2.2)
   generalize (w7.setCell ⟨gi, 0, none⟩ (.int .i64 0)).setCell ⟨gi, 1, none⟩ (.int .i64 n) = w8 at hI8 hO8 hV8 hW8 hB8 ⊢
   have hO9 := blk_put (blk_put hO8 0 (.int .i64 n) rfl) 1 (.int .i64 N) rfl
   have hG89 := World.grownBy.trans (grown_set w8 go 0 (.int .i64 n)) (grown_set _ go 1 (.int .i64 N))
   have HO9 := Aside0.mk hO9
   have HI9 := Aside0.mk ((hG89.block gi (blk_lt hI8) (fun e => hgio (Option.some.inj e))).trans hI8)
   have HV9 := Aside0.mk (hV8.grown hG89 HGO.out.1)
   have HW9 := Aside0.mk (hW8.grown hG89 HGO.out.2.1)
   have HB9 : Aside0 (Below w.heap.size w _) := ⟨hB8.grown hG89 hB8.size (fun j hj => by obtain rfl := Option.some.inj hj; exact HGO.out.2.2.1)⟩
   clear hI8 hG78 hO8 hV8 hW8 hB8 hO9 hG89 z0 z1 f0 f1 y0 y1 g0 g1 HO7 HI7 HV7 HW7 HB7
   generalize (w8.setCell ⟨go, 0, none⟩ (.int .i64 n)).setCell ⟨go, 1, none⟩ (.int .i64 N) = w9 at HO9 HI9 HV9 HW9 HB9 ⊢
   go_loopg [14] (sumL r0 N + 1) (fun kq v14 wr => ∃ (r : Lab) (p : List Int) (b : Bool), v14 = .bool b ∧ Aside0 ((if b then sumL r N + 1 else 0) ≤ kq) ∧ Aside0 (if b then endF n m r = endF n m r0 else r = endF n m r0) ∧ Aside0 (wr.heap[gi]? = some (.cells #[.int .i64 0, .int .i64 n] 33 (0, 0))) ∧ Aside0 (wr.heap[go]? = some (.cells #[.int .i64 n, .int .i64 N] 33 (0, 0))) ∧ Aside0 (LI wr w2base g N cap p) ∧ Aside0 (WV wr B g n m N cap) ∧ Aside0 (PF N r p) ∧ Aside0 (LabOk N r) ∧ Aside0 (Below w.heap.size w wr))
   case atStart => exact ⟨r0, p5, true, rfl, ⟨Nat.le_refl _⟩, ⟨rfl⟩, HI9, HO9, HV9, HW9, HP5, HO5, HB9⟩
   case round =>
    clear HI9 HO9 HV9 HW9 HP5 HO5 HB9
    obtain ⟨r, p, b, rfl, HK, HE, HI, HO, HV, HW, HP, HL, HB⟩ := hrel
    cases b with
    | false =>
     have her : r = finL n m (l.map lkOf) := by rw [show r = endF n m r0 from HE.out, HR0.out]; rfl
     have hcl : Closed n m (l.map lkOf) (fun x y => r x = r y) := by rw [her]; exact finL_closed hn hm (lk_wf HLK.out).1 HF.out
     have hfo : FinOk n m (l.map lkOf) r := ⟨fun R hR => by rw [her]; exact finL_sound hR (lk_wf HLK.out).1 HF.out, hcl⟩
     have HFO := Aside0.mk hfo
     have HBT : Aside0 (Between (fun x y => r x = r y) 0 n) := ⟨fun i j k _ h1 h2 h3 h4 => hcl.conv1 i j k h1 h2 h3 h4⟩
     have HOT : Aside0 (∀ j, j < n → ∃ i, i < m ∧ r (n + i) = r j) := ⟨fun j hj => outs_met hcl (lk_wf HLK.out).1 (lk_wf HLK.out).2.2 HF.out j hj⟩
     have HIN : Aside0 (∀ i, i < m → ∃ j, j < n ∧ r j = r (n + i)) := ⟨fun i hi => ins_met hcl (lk_wf HLK.out).2.1 (outB_met (fun x hx => (HLK.out x hx).c0) HCOV.out) i hi⟩
     clear her hcl hfo HE HK
     go_wp2_with (first | (go_at_call 63; refine (clusters_c HW.out HV.out HNE.out HP.out HL.out hNN HNM.out.symm hn HBT.out HOT.out HIN.out).mono ?_; rintro e8 wf ⟨u, rfl, a1, a2⟩; have HRF := Aside0.mk a1; have HGF := Aside0.mk a2; clear a1 a2))
     refine bodyPost_ret (results_tmp2 rfl _ _ _) rfl ?_
     exact ⟨u, r, rfl, HFO.out, Kd.R_lower HRF.out HB.out.size, HB.out.grown HGF.out HB.out.size (fun j hj => by obtain rfl := Option.some.inj hj; exact HGB.out)⟩
    | true =>
     have hk : sumL r N + 1 ≤ gk := HK.out
     have hend : endF n m r = endF n m r0 := HE.out
     have HK := Aside0.mk hk
     have HEN := Aside0.mk hend
     have HST := Aside0.mk (endF_step n m hn hm r)
     have HSM := Aside0.mk (roundF_sum n m hn hm r)
     rw [← HNM.out] at HSM
     obtain ⟨q1, hq1⟩ : ∃ q, q = closeF r 0 n := ⟨_, rfl⟩
     obtain ⟨q2, hq2⟩ : ∃ q, q = closeF q1.1 n N := ⟨_, rfl⟩
     have HRF : Aside0 (roundF n m r = (q2.1, q1.2 || q2.2)) := ⟨by unfold roundF; rw [hq2, hq1, HNM.out]⟩
     have HQ1 := Aside0.mk hq1
     have HQ2 := Aside0.mk hq2
     have HL1 : Aside0 (LabOk N q1.1) := ⟨by rw [hq1]; exact labOk_closeF 0 n hn (by have := HNM.out; omega) HL.out⟩
     have HL2 : Aside0 (LabOk N q2.1) := ⟨by rw [hq2]; exact labOk_closeF n N (by have := HNM.out; omega) (Nat.le_refl _) HL1.out⟩
     have hnN : n < N := by have := HNM.out; omega
     have HNN := Aside0.mk hnN
     clear hk hend hq1 hq2
     go_wp2_with fail
     refine start_ (n := 8) (S := (fun W => W.heap[gi]? = some (.cells #[.int .i64 0, .int .i64 n] 33 (0, 0)) ∧ W.heap[go]? = some (.cells #[.int .i64 n, .int .i64 N] 33 (0, 0)))) (ds := [5]) #[false, false, false, false, false, false, false, false] (by kernel_rfl) (by kernel_rfl) (by rfl) ⟨HI.out, HO.out⟩ (fun hS0 => ?_)
     refine pure_ (i := 0) (N := (some 57)) (v := ?_) (a' := ?_) #[true, false, false, false, false, false, false, false] rfl rfl (by kernel_rfl) (fun _ _ _ h => h) (Or.inl ⟨by rfl, ?_⟩) ?_ ?_
     rotate_left
     ·intro w'
      go_simp
      with_reducible rfl
     rotate_left
     ·simp only [Act.put, List.setIfInBounds_toArray, List.set_cons_zero, List.set_cons_succ]
      rfl
     refine take_ (i := 1) (N := (some 58)) (v := ?_) (a' := ?_) #[true, true, false, false, false, false, false, false] rfl rfl (by kernel_rfl) (fun _ _ _ h => h) (Or.inl ⟨by rfl, ?_⟩) hS0 ?_ ?_
     rotate_left
     ·intro w' s0
      have q0 := (blk_cell s0.1 0).trans rfl
      have q1 := (blk_cell s0.1 1).trans rfl
      go_simp
      with_reducible rfl
     rotate_left
     ·simp only [Act.put, List.setIfInBounds_toArray, List.set_cons_zero, List.set_cons_succ]
      rfl
     refine pure_ (i := 3) (N := (some 60)) (v := ?_) (a' := ?_) #[true, true, false, true, false, false, false, false] rfl rfl (by kernel_rfl) (fun _ _ _ h => h) (Or.inl ⟨by rfl, ?_⟩) ?_ ?_
     rotate_left
     ·intro w'
      go_simp
      with_reducible rfl
     rotate_left
     ·simp only [Act.put, List.setIfInBounds_toArray, List.set_cons_zero, List.set_cons_succ]
      rfl
     refine take_ (i := 4) (N := (some 61)) (v := ?_) (a' := ?_) #[true, true, false, true, true, false, false, false] rfl rfl (by kernel_rfl) (fun _ _ _ h => h) (Or.inl ⟨by rfl, ?_⟩) hS0 ?_ ?_
     rotate_left
     ·intro w' s0
      have q0 := (blk_cell s0.2 0).trans rfl
      have q1 := (blk_cell s0.2 1).trans rfl
      go_simp
      with_reducible rfl
     rotate_left
     ·simp only [Act.put, List.setIfInBounds_toArray, List.set_cons_zero, List.set_cons_succ]
      rfl
     clear hS0
     refine one_ (i := 2) (N := (some 59)) #[true, true, true, true, true, false, false, false] rfl rfl (by kernel_rfl) (by decide) (fun K hK => ?_)
     refine goes_ Try.func62 (by kernel_rfl) rfl #[.pointer (some ⟨B, 0, none⟩), .agg #[.int .i64 ((0 : Nat) : Int), .int .i64 n]] (by rfl) rfl rfl (by go_simp; done) ?_
     refine (close_c (w := wr.drew) HW.out (Kd.R_drew HV.out) HNE.out HP.out HL.out (by omega) 0 n hn (by omega)).mono ?_
     rintro e8 wa ⟨rfl, pa, a1, a2, a3⟩
     refine ⟨_, rfl, ?_⟩
     rw [← HQ1.out] at a2 ⊢
     have HVa := Aside0.mk a1
     have HPa := Aside0.mk a2
     have HGa : Aside0 (wr.grownBy wa (some g)) := ⟨World.grownBy.trans (below_grownBy (below_drew (Below.refl _ _)) _) a3⟩
     clear a1 a2 a3
     obtain ⟨b1, hb1⟩ : ∃ b, q1.2 = b := ⟨_, rfl⟩
     have HB1 := Aside0.mk hb1
     rw [hb1]
     clear hb1
     have hIa := (HGa.out.block gi (blk_lt HI.out) (fun e => HGI.out.1 (Option.some.inj e).symm)).trans HI.out
     have hOa := (HGa.out.block go (blk_lt HO.out) (fun e => HGO.out.1 (Option.some.inj e).symm)).trans HO.out
     have HIa := Aside0.mk hIa
     have HOa := Aside0.mk hOa
     clear hIa hOa
     change K (Act.put _ (some 59) _) _
     refine hK.out _ _ ⟨HIa.out, HOa.out⟩ (fun hS0 => ?_)
     clear hK
     refine norm_ (a' := ?_) ?_ ?_
     rotate_left
     ·simp only [Act.put, List.setIfInBounds_toArray, List.set_cons_zero, List.set_cons_succ]
      rfl
     clear hS0
     refine last_ (i := 5) (N := (some 62)) #[true, true, true, true, true, true, false, false] rfl rfl (by kernel_rfl) (by decide) (fun K hK => ?_)
     refine goes_ Try.func62 (by kernel_rfl) rfl #[.pointer (some ⟨B, 0, none⟩), .agg #[.int .i64 n, .int .i64 N]] (by rfl) rfl rfl (by go_simp; done) ?_
     refine (close_c (HW.out.grown HGa.out HNE.out) HVa.out HNE.out HPa.out HL1.out (by omega) n N hnN (Nat.le_refl _)).mono ?_
     rintro e8 wb ⟨rfl, pb, a1, a2, a3⟩
     refine ⟨_, rfl, ?_⟩
     rw [← HQ2.out] at a2 ⊢
     have HVb := Aside0.mk a1
     have HPb := Aside0.mk a2
     have HGb : Aside0 (wr.grownBy wb (some g)) := ⟨World.grownBy.trans HGa.out a3⟩
     clear a1 a2 a3
     obtain ⟨b2, hb2⟩ : ∃ b, q2.2 = b := ⟨_, rfl⟩
     have HB2 := Aside0.mk hb2
     rw [hb2]
     clear hb2
     change K (Act.put _ (some 62) _) _
     refine hK.out _ _ ?_
     clear hK
     refine norm_ (a' := ?_) ?_ ?_
     rotate_left
     ·simp only [Act.put, List.setIfInBounds_toArray, List.set_cons_zero, List.set_cons_succ]
      rfl
     refine pure_ (i := 6) (N := (some 15)) (v := ?_) (a' := ?_) #[true, true, true, true, true, true, true, false] rfl rfl (by kernel_rfl) (fun _ _ _ h => h) (Or.inl ⟨by rfl, ?_⟩) ?_ ?_
     rotate_left
     ·intro w'
      go_simp
      with_reducible rfl
     rotate_left
     ·simp only [Act.put, List.setIfInBounds_toArray, List.set_cons_zero, List.set_cons_succ]
      rfl
     refine pure_ (i := 7) (N := (some 16)) (v := ?_) (a' := ?_) #[true, true, true, true, true, true, true, true] rfl rfl (by kernel_rfl) (fun _ _ _ h => h) (Or.inl ⟨by rfl, ?_⟩) ?_ ?_
     rotate_left
     ·intro w'
      go_simp
      with_reducible rfl
     rotate_left
     ·simp only [Act.put, List.setIfInBounds_toArray, List.set_cons_zero, List.set_cons_succ]
      rfl
     refine done_ (by kernel_rfl) ?_
     have HRB : Aside0 (roundF n m r = (q2.1, b1 || b2)) := ⟨by rw [HRF.out, HB1.out, HB2.out]⟩
     cases b1 with
     | true =>
      go_wp2_with fail
      have hsm := HSM.out.2 (by rw [HRB.out]; rfl)
      rw [HRB.out] at hsm
      have hst := HST.out
      rw [HRB.out] at hst
      have hst2 : endF n m r = endF n m q2.1 := hst
      dsimp only at hsm
      have HHK : Aside0 ((if true then sumL q2.1 N + 1 else 0) ≤ sumL q2.1 N + 1) := ⟨Nat.le_refl _⟩
      have HHE : Aside0 (if true then endF n m q2.1 = endF n m r0 else q2.1 = endF n m r0) := ⟨hst2.symm.trans HEN.out⟩
      have hkk : sumL r N + 1 ≤ gk := by have := HK.out; simpa using this
      clear hst hst2
      go_roundg (sumL q2.1 N + 1)
      case measure => omega
      case rel => exact ⟨q2.1, pb, true, rfl, HHK, HHE, ⟨(HGb.out.block gi (blk_lt HI.out) (fun e => HGI.out.1 (Option.some.inj e).symm)).trans HI.out⟩, ⟨(HGb.out.block go (blk_lt HO.out) (fun e => HGO.out.1 (Option.some.inj e).symm)).trans HO.out⟩, HVb, ⟨HW.out.grown HGb.out HNE.out⟩, HPb, HL2, ⟨HB.out.grown HGb.out HB.out.size (fun j hj => by obtain rfl := Option.some.inj hj; exact HGB.out)⟩⟩
     | false =>
      cases b2 with
      | true =>
       go_wp2_with fail
       have hsm := HSM.out.2 (by rw [HRB.out]; rfl)
       rw [HRB.out] at hsm
       have hst := HST.out
       rw [HRB.out] at hst
       have hst2 : endF n m r = endF n m q2.1 := hst
       dsimp only at hsm
       have HHK : Aside0 ((if true then sumL q2.1 N + 1 else 0) ≤ sumL q2.1 N + 1) := ⟨Nat.le_refl _⟩
       have HHE : Aside0 (if true then endF n m q2.1 = endF n m r0 else q2.1 = endF n m r0) := ⟨hst2.symm.trans HEN.out⟩
       have hkk : sumL r N + 1 ≤ gk := by have := HK.out; simpa using this
       clear hst hst2
       go_roundg (sumL q2.1 N + 1)
       case measure => omega
       case rel => exact ⟨q2.1, pb, true, rfl, HHK, HHE, ⟨(HGb.out.block gi (blk_lt HI.out) (fun e => HGI.out.1 (Option.some.inj e).symm)).trans HI.out⟩, ⟨(HGb.out.block go (blk_lt HO.out) (fun e => HGO.out.1 (Option.some.inj e).symm)).trans HO.out⟩, HVb, ⟨HW.out.grown HGb.out HNE.out⟩, HPb, HL2, ⟨HB.out.grown HGb.out HB.out.size (fun j hj => by obtain rfl := Option.some.inj hj; exact HGB.out)⟩⟩
      | false =>
       go_wp2_with fail
       have hst := HST.out
       rw [HRB.out] at hst
       have hst2 : endF n m r = q2.1 := hst
       have HHK : Aside0 ((if false then sumL q2.1 N + 1 else 0) ≤ 0) := ⟨Nat.le_refl _⟩
       have HHE : Aside0 (if false then endF n m q2.1 = endF n m r0 else q2.1 = endF n m r0) := ⟨hst2.symm.trans HEN.out⟩
       have hkk : sumL r N + 1 ≤ gk := by have := HK.out; simpa using this
       clear hst hst2
       go_roundg 0
       case measure => omega
       case rel => exact ⟨q2.1, pb, false, rfl, HHK, HHE, ⟨(HGb.out.block gi (blk_lt HI.out) (fun e => HGI.out.1 (Option.some.inj e).symm)).trans HI.out⟩, ⟨(HGb.out.block go (blk_lt HO.out) (fun e => HGO.out.1 (Option.some.inj e).symm)).trans HO.out⟩, HVb, ⟨HW.out.grown HGb.out HNE.out⟩, HPb, HL2, ⟨HB.out.grown HGb.out HB.out.size (fun j hj => by obtain rfl := Option.some.inj hj; exact HGB.out)⟩⟩
end Go.Proofs.Ytohhobcipfmkbaa.CFin
end
