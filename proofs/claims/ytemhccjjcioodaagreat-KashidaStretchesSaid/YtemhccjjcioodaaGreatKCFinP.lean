/- Cut. -/
import Derived.Test.YtemhccjjcioodaaGreatKUFinest
import Derived.Test.YtemhccjjcioodaaGreatKCFinR
import Derived.Test.YtemhccjjcioodaaGreatKAl
set_option linter.unusedSimpArgs false
set_option linter.unusedVariables false
set_option maxRecDepth 100000
set_option maxHeartbeats 16000000
namespace Go.Proofs.YtemhccjjcioodaaGreat
open Go.RowKit YtemhccjjcioodaaGreatW.PrintLast YtemhccjjcioodaaGreatW.PrintMore YtemhccjjcioodaaGreatW.PrintWords
namespace PClusterFinest

attribute [local go_sem] max2_int min2_int max_two min_two max_three min_three max_four min_four
attribute [local go_sem high] eqA45
def naskhref04_whole.l0 : Nat → List Int → Bool → Int → Option (Bool × List Int)
 | 0, _, _, _ => none
 | k + 1, x0, x3, x4 => if x4 < (x0.length : Int) then (if 0 ≤ x4 then ((naskhref04_hull.f k x0 (rd x0 x4)).bind fun bt178 => ((naskhref04_least.f k x0 bt178.1 bt178.2).bind fun t181 => ((naskhref04_same.f k x0 bt178.1 bt178.2 t181).bind fun bt182 => (if bt182.1 = true then (naskhref04_whole.l0 k bt182.2 true (wrap64 (x4 + 1))) else (naskhref04_whole.l0 k bt182.2 x3 (wrap64 (x4 + 1))))))) else (none)) else (some (x3, x0))
def naskhref04_whole.f (k : Nat) (l0 : List Int) : Option (Bool × List Int) := naskhref04_whole.l0 k l0 false 0
def naskhref04_whole.T6 : Bool × List (List Nat × List Nat) := (true, [([], []), ([], []), ([], []), ([], []), ([2, 3], [2, 3]), ([0, 1, 4, 4], [0, 1, 4]), ([5, 5], [5]), ([6], [6]), ([6, 7], [6, 7]), ([8, 6, 0, 1, 2, 3, 4, 5, 6, 7, 8], [7, 8])])
def naskhref04_whole.B6 : List Nat := [0, 0, 0, 0, 12, 31, 63, 127, 255, 511]
theorem naskhref04_whole.tab6 : rtab .any (opsOf Tryz.f256 6) = naskhref04_whole.T6 := by kernel_rfl
theorem naskhref04_whole.bits6 : waitsOk naskhref04_whole.T6.2 naskhref04_whole.B6 = true := by kernel_rfl
theorem naskhref04_whole.calls (k : Nat) (P0_ : Nat → Prop) (u9000_ : Value) (l0 : List Int) (r1 : Bool) (r2 : List Int) (w0 w : World) (hB : Below w0.heap.size w0 w) (ho0 : Kd.R (Kd.int .i64) 3 w w0.heap.size P0_ u9000_ l0) (h : naskhref04_whole.f k l0 = some (r1, r2)) :
 Calls Tryz.prog 256 #[u9000_] w fun e w' => e = .returned (.bool r1) ∧ Kd.R (Kd.int .i64) 3 w' w0.heap.size (fun k_ => (P0_ k_ ∨ w.heap.size ≤ k_)) u9000_ r2 ∧ Below w0.heap.size w0 w' ∧ Kept w w' (fun k_ => P0_ k_) := by
 have hu33 := Tryz.underlying34
 have HO0 := aMk (show Kd.R (Kd.int .i64) 3 w w0.heap.size (fun k_ => (P0_ k_ ∨ w.heap.size ≤ k_)) u9000_ l0 from qrM ho0 (fun k_ hk => (.inl hk)))
 have HK := aMk (Kept.refl w (fun k_ => P0_ k_))
 have HW0 := aMk hB.size
 have HB := aMk hB; clear hB
 have H : (naskhref04_whole.l0 k l0 false 0) = some (r1, r2) := h
 clear h
 have H' := aMk H
 clear H
 go_enter Tryz.func256, Tryz.ntmps256
 go_wp2
 go_loopg [3, 4] k (fun kq v3 v4 w' => ∃ (x0_1 : List Int) (x3_1 : Bool) (x4_1 : Int), v3 = .bool x3_1 ∧ v4 = .int .i64 x4_1 ∧ Aside0 (naskhref04_whole.l0 kq x0_1 x3_1 x4_1 = some (r1, r2)) ∧ Aside0 (kq ≤ k) ∧ Aside0 (Kd.R (Kd.int .i64) 3 w' w0.heap.size (fun k_ => (P0_ k_ ∨ w.heap.size ≤ k_)) u9000_ x0_1) ∧ Aside0 (Kept w w' (fun k_ => P0_ k_)) ∧ Aside0 (Below w0.heap.size w0 w'))
 case atStart => exact ⟨(l0), (false), (0), rfl, rfl, H', ⟨qlR _⟩, ⟨by (with_reducible repeat (first | apply qrA | apply qrN | apply qrD)); exact HO0.out⟩, ⟨by repeat (first | (with_reducible first | exact HK.out | apply Kept.alloc | apply Kept.drewN | apply Kept.drew) | exact HK.out)⟩, ⟨by repeat (first | (with_reducible first | exact HB.out | apply qbA | apply qbN | apply qb1) | exact HB.out)⟩⟩
 case round =>
  clear H'
  obtain ⟨x0_1, x3_1, x4_1, rfl, rfl, HA, HK1, HO_0, HK, HB⟩ := hrel
  cases gk with
  | zero => exact absurd HA.out (by simp [naskhref04_whole.l0])
  | succ k1 =>
   have H := HA.out
   clear HA
   simp only [naskhref04_whole.l0] at H
   by_cases c2 : x4_1 < (x0_1.length : Int)
   ·rw [if_pos c2] at H
    have c2b0 := qdT c2
    clear c2
    by_cases c3 : 0 ≤ x4_1
    ·rw [if_pos c3] at H
     have c3b0 := qdT c3
     clear c3
     replace H := qoB.mp H
     obtain ⟨⟨t178, t179⟩, A40, H⟩ := H
     try dsimp only at H
     have A4 := aMk A40; clear A40
     replace H := qoB.mp H
     obtain ⟨t181, A50, H⟩ := H
     try dsimp only at H
     have A5 := aMk A50; clear A50
     replace H := qoB.mp H
     obtain ⟨⟨t182, t183⟩, A60, H⟩ := H
     try dsimp only at H
     have A6 := aMk A60; clear A60
     by_cases c7 : t182 = true
     ·subst c7
      rw [if_pos rfl] at H
      have H' := aMk H
      clear H
      obtain ⟨Ao8, co8, eo8⟩ := Kd.R_slice HO_0.out
      subst eo8
      have p177 : 0 ≤ (x4_1 : Int) := qoD (by assumption)
      have q177 : x4_1 < (x0_1.length : Int) := qoD (by assumption)
      obtain ⟨ad177, e177, hx177_0⟩ := Kd.at_int (Kd.R_reads' HO_0.out).2.2 x4_1 p177 q177
      cases e177
      replace p177 := eq_true p177
      replace q177 := eq_true q177
      try go_wp2_with (first | ((with_reducible refine gate_callee (f := 199) rfl ?_); refine goesL_ (some 17) rfl rfl Tryz.func199 (by kernel_rfl) rfl #[.slice (some ad177) x0_1.length co8, .int .i64 (rd x0_1 x4_1)] rfl (by (try simp only [lm0, lm1, lm2]); first | done | rfl | (simp only [lm3, lm4]; rfl)) ?_; (with_reducible refine (naskhref04_hull.calls k1 _ _ x0_1 (rd x0_1 x4_1) t178 t179 _ ?side1 ?side2 A4.out).mono ?_); (case side1 => repeat (first | exact (Kd.R_reads' HO_0.out).2.2 | (with_reducible refine Kd.C_alloc ?_ _) | (with_reducible refine Kd.C_drewN ?_ _) | (with_reducible refine Kd.C_drew ?_))); (case side2 => exact (Kd.R_reads' HO_0.out).2.1); rintro e w9 ⟨rfl, hb⟩; refine ⟨_, rfl, ?_⟩; have n0_ := aMk (qrB HO_0.out hb); have n1_ := aMk (Kept.below (S := (fun k_ => P0_ k_)) HK.out hb); have n2_ := aMk (qbP HB.out hb); clear HO_0; clear HK; clear HB; have HO_0 := n0_; have HK := n1_; have HB := n2_; clear n0_ n1_ n2_; (try clear hi)) | ((with_reducible refine gate_dst (N := 5) rfl ?_); refine box_event ?hg (N := 5) ?hd (cs := #[.int .i64 0, .int .i64 0]) (t := 34) ?hr ?_; (case hd => rfl); (case hg => rfl); (case hr => go_simp; done); intro gb180 hg w10 hbox hb; have n0_ := aMk (qrB HO_0.out hb); have n1_ := aMk (Kept.below (S := (fun k_ => P0_ k_)) HK.out hb); have n2_ := aMk (qbP HB.out hb); have n3_ := aMk (hbox); have n4_ := aMk ((by rw [hg]; exact (by first | exact HK.out.1 | exact (show Kept w _ (fun k_ => P0_ k_) from by repeat (first | (with_reducible first | exact HK.out | apply Kept.alloc | apply Kept.drewN | apply Kept.drew) | exact HK.out)).1) : w.heap.size ≤ gb180)); have n5_ := aMk ((by rw [hg]; exact (qbZ HB.out) : w0.heap.size ≤ gb180)); clear HO_0; clear HK; clear HB; have HO_0 := n0_; have HK := n1_; have HB := n2_; have BK180 := n3_; have GW180 := n4_; have GE180 := n5_; clear n0_ n1_ n2_ n3_ n4_ n5_; clear hb hbox hg; have hcz11_0 : w10.cell? ⟨gb180, 0, none⟩ = some (.int .i64 0) := (blk_cell BK180.out 0).trans rfl; have hcz11_1 : w10.cell? ⟨gb180, 1, none⟩ = some (.int .i64 0) := (blk_cell BK180.out 1).trans rfl; have hfz11_0 := qbF BK180.out 0; have hfz11_1 := qbF BK180.out 1))
      have n0_ : Aside0 (Kd.R (Kd.int .i64) 3 ((w10.setCell ⟨gb180, 0, none⟩ (.int .i64 t178)).setCell ⟨gb180, 1, none⟩ (.int .i64 t179)) w0.heap.size (fun k_ => (P0_ k_ ∨ w.heap.size ≤ k_)) (.slice (some ad177) x0_1.length co8) x0_1) := ⟨by (with_reducible repeat (first | apply qrA | apply qrN | apply qrD)); exact qrM (Kd.R_far (p := ⟨gb180, 1, none⟩) (Kd.R_far (p := ⟨gb180, 0, none⟩) (Kd.R_types HO_0.out BK180.out (by decide)) (fun _ hk => hk.2) (.int .i64 t178)) (fun _ hk => hk.2) (.int .i64 t179)) (fun _ hk => hk.1)⟩
      have n1_ : Aside0 (((w10.setCell ⟨gb180, 0, none⟩ (.int .i64 t178)).setCell ⟨gb180, 1, none⟩ (.int .i64 t179)).heap[gb180]? = some (.cells #[.int .i64 t178, .int .i64 t179] 34 (0, 0))) := ⟨by refine blk_put (cs := #[.int .i64 t178, .int .i64 0]) ?_ 1 _ rfl; refine blk_put (cs := #[.int .i64 0, .int .i64 0]) ?_ 0 _ rfl; exact BK180.out⟩
      have n2_ : Aside0 (Kept w ((w10.setCell ⟨gb180, 0, none⟩ (.int .i64 t178)).setCell ⟨gb180, 1, none⟩ (.int .i64 t179)) (fun k_ => P0_ k_)) := ⟨by repeat (first | (with_reducible first | exact HK.out | apply Kept.alloc | apply Kept.drewN | apply Kept.drew | refine Kept.setCell ?_ (.inr GW180.out) _) | exact HK.out)⟩
      have n3_ : Aside0 (Below w0.heap.size w0 ((w10.setCell ⟨gb180, 0, none⟩ (.int .i64 t178)).setCell ⟨gb180, 1, none⟩ (.int .i64 t179))) := ⟨by repeat (first | (with_reducible first | exact HB.out | apply qbA | apply qbN | apply qb1 | refine qbS ?_ GE180.out) | exact HB.out)⟩
      (try clear HO_0)
      (try clear BK180)
      (try clear HK)
      (try clear HB)
      generalize ((w10.setCell ⟨gb180, 0, none⟩ (.int .i64 t178)).setCell ⟨gb180, 1, none⟩ (.int .i64 t179)) = w12 at n0_ n1_ n2_ n3_ ⊢
      have HO_0 := n0_
      have BK180 := n1_
      have HK := n2_
      have HB := n3_
      clear n0_ n1_ n2_ n3_
      have n0_ := aMk (qrD HO_0.out)
      have n1_ := aMk (blk_drew BK180.out)
      have n2_ := aMk (Kept.drew HK.out)
      have n3_ := aMk (qb1 HB.out)
      clear HO_0
      clear BK180
      clear HK
      clear HB
      have HO_0 := n0_
      have BK180 := n1_
      have HK := n2_
      have HB := n3_
      clear n0_ n1_ n2_ n3_
      refine start_ (n := 10) (S := fun w' => w'.cell? ⟨gb180, 0, none⟩ = some (.int .i64 t178) ∧ w'.cell? ⟨gb180, 1, none⟩ = some (.int .i64 t179)) (ds := []) #[false, false, false, false, false, false, false, false, false, false] (by kernel_rfl) rfl rfl ⟨(blk_cell BK180.out 0).trans rfl, (blk_cell BK180.out 1).trans rfl⟩ (fun hHeld => ?_); refine with_tabW naskhref04_whole.tab6 naskhref04_whole.bits6 (fun HT_ HW_ => ?_)
      generalize w12.drew = w13 at HO_0 BK180 HK HB hHeld ⊢
      refine pure_ (i := 0) (N := some 18) (v := ?_) (a' := ?_) #[true, false, false, false, false, false, false, false, false, false] rfl rfl (any_of HT_.out (by kernel_rfl)) (fun _ _ _ h => h) (Or.inl ⟨by rfl, ?_⟩) ?_ ?_
      rotate_left
      ·intro w'
       go_simp
       with_reducible rfl
      rotate_left
      ·simp only [Act.put, sqA, sq0, sq1, i64_w, i32_w]
       rfl
      refine pure_ (i := 2) (N := some 20) (v := ?_) (a' := ?_) #[true, false, true, false, false, false, false, false, false, false] rfl rfl (any_of HT_.out (by kernel_rfl)) (fun _ _ _ h => h) (Or.inl ⟨by rfl, ?_⟩) ?_ ?_
      rotate_left
      ·intro w'
       go_simp
       with_reducible rfl
      rotate_left
      ·simp only [Act.put, sqA, sq0, sq1, i64_w, i32_w]
       rfl
      refine take_ (i := 1) (N := some 19) (v := ?_) (a' := ?_) #[true, true, true, false, false, false, false, false, false, false] rfl rfl (take_ofW HT_.out HW_.out (by kernel_rfl)) (fun _ _ _ h => h) (Or.inl ⟨by rfl, ?_⟩) hHeld ?_ ?_
      rotate_left
      ·rintro w' ⟨s0, s1⟩
       go_simp
       with_reducible rfl
      rotate_left
      ·simp only [Act.put, sqA, sq0, sq1, i64_w, i32_w]
       rfl
      refine take_ (i := 3) (N := some 21) (v := ?_) (a' := ?_) #[true, true, true, true, false, false, false, false, false, false] rfl rfl (take_ofW HT_.out HW_.out (by kernel_rfl)) (fun _ _ _ h => h) (Or.inl ⟨by rfl, ?_⟩) hHeld ?_ ?_
      rotate_left
      ·rintro w' ⟨s0, s1⟩
       go_simp
       with_reducible rfl
      rotate_left
      ·simp only [Act.put, sqA, sq0, sq1, i64_w, i32_w]
       rfl
      refine one_ (i := 4) (N := some 22) #[true, true, true, true, true, false, false, false, false, false] rfl rfl (one_of HT_.out (by kernel_rfl)) (by decide) (fun K hK => ?_)
      refine goes_ Tryz.func254 (by kernel_rfl) rfl #[.slice (some ad177) x0_1.length co8, .agg #[.int .i64 t178, .int .i64 t179]] (by rfl) rfl rfl (by (try simp only [lm0, lm1, lm2]); first | done | rfl | (simp only [lm3, lm4]; rfl)) ?_
      with_reducible refine (naskhref04_least.calls k1 _ _ x0_1 t178 t179 t181 _ ?side1 ?side2 A5.out).mono ?_
      (case side1 => repeat (first | exact (Kd.R_reads' HO_0.out).2.2 | (with_reducible refine Kd.C_alloc ?_ _) | (with_reducible refine Kd.C_drewN ?_ _) | (with_reducible refine Kd.C_drew ?_)))
      (case side2 => exact (Kd.R_reads' HO_0.out).2.1)
      rintro e w14 ⟨rfl, hb⟩
      refine ⟨_, rfl, ?_⟩
      have n0_ := aMk (qrB HO_0.out hb)
      have n1_ := aMk (blk_below (g := gb180) (o := .cells #[.int .i64 t178, .int .i64 t179] 34 (0, 0)) (by exact BK180.out) hb)
      have n2_ := aMk (Kept.below (S := (fun k_ => P0_ k_)) HK.out hb)
      have n3_ := aMk (qbP HB.out hb)
      clear HO_0
      clear BK180
      clear HK
      clear HB
      have HO_0 := n0_
      have BK180 := n1_
      have HK := n2_
      have HB := n3_
      clear n0_ n1_ n2_ n3_
      (try clear hb)
      (try clear hb2)
      (try clear hk)
      (try clear hi)
      refine hK.out _ _ ⟨(blk_cell BK180.out 0).trans rfl, (blk_cell BK180.out 1).trans rfl⟩ (fun hHeld => ?_)
      clear hK K
      refine norm_ (a' := ?_) ?_ ?_
      rotate_left
      ·show Act.put _ (some 22) _ = _
       simp only [Act.put, sqA, sq0, sq1, i64_w, i32_w]
       rfl
      refine one_ (i := 5) (N := some 23) #[true, true, true, true, true, true, false, false, false, false] rfl rfl (one_of HT_.out (by kernel_rfl)) (by decide) (fun K hK => ?_)
      refine goes_ Tryz.func255 (by kernel_rfl) rfl #[.slice (some ad177) x0_1.length co8, .agg #[.int .i64 t178, .int .i64 t179], .int .i64 t181] (by rfl) rfl rfl (by (try simp only [lm0, lm1, lm2]); first | done | rfl | (simp only [lm3, lm4]; rfl)) ?_
      with_reducible refine (naskhref04_same.calls k1 (fun k_ => some k_ = (.slice (some ad177) x0_1.length co8 : Value).ownBlock) (.slice (some ad177) x0_1.length co8) x0_1 t178 t179 t181 true t183 w0 _ ?side1 ?side2 A6.out).mono ?_
      (case side1 => repeat (first | (with_reducible first | exact HB.out | apply qbA | apply qbN | apply qb1 | refine qbS ?_ GE180.out) | exact HB.out))
      (case side2 => exact Kd.R_tight rfl HO_0.out)
      rintro e w15 ⟨rfl, hy0, hb, hkp⟩
      refine ⟨_, rfl, ?_⟩
      have n0_ := aMk (Kd.R_reok rfl hy0 (fun k_ e_ => HO_0.out.1 k_ e_))
      have n1_ := aMk (blk_kept (by exact BK180.out) hkp (fun hs_ => (fun e_ => (Kd.R_ne HO_0.out BK180.out (by decide)) e_) hs_))
      have n2_ := aMk (Kept.then_ (S := (fun k_ => P0_ k_)) HK.out hkp (fun k_ hs_ => (fun e_ => (HO_0.out.1 k_ e_.symm)) hs_))
      have n3_ := aMk (hb)
      clear HO_0
      clear BK180
      clear HK
      clear HB
      have HO_0 := n0_
      have BK180 := n1_
      have HK := n2_
      have HB := n3_
      clear n0_ n1_ n2_ n3_
      (try clear hb)
      (try clear hkp)
      (try clear hy0)
      refine hK.out _ _ ⟨(blk_cell BK180.out 0).trans rfl, (blk_cell BK180.out 1).trans rfl⟩ (fun hHeld => ?_)
      clear hK K
      refine norm_ (a' := ?_) ?_ ?_
      rotate_left
      ·show Act.put _ (some 23) _ = _
       simp only [Act.put, sqA, sq0, sq1, i64_w, i32_w]
       rfl
      refine pure_ (i := 6) (N := some 24) (v := ?_) (a' := ?_) #[true, true, true, true, true, true, true, false, false, false] rfl rfl (any_of HT_.out (by kernel_rfl)) (fun _ _ _ h => h) (Or.inl ⟨by rfl, ?_⟩) ?_ ?_
      rotate_left
      ·intro w'
       go_simp
       with_reducible rfl
      rotate_left
      ·simp only [Act.put, sqA, sq0, sq1, i64_w, i32_w]
       rfl
      refine pure_ (i := 7) (N := some 25) (v := undef) (a' := ?_) #[true, true, true, true, true, true, true, true, false, false] rfl rfl (any_of HT_.out (by kernel_rfl)) (fun _ _ _ h => h) (Or.inr ⟨by rfl, rfl⟩) ?_ ?_
      rotate_left
      ·simp only [Act.put, sqA, sq0, sq1, i64_w, i32_w]
       rfl
      refine pure_ (i := 8) (N := some 26) (v := ?_) (a' := ?_) #[true, true, true, true, true, true, true, true, true, false] rfl rfl (any_of HT_.out (by kernel_rfl)) (fun _ _ _ h => h) (Or.inl ⟨by rfl, ?_⟩) ?_ ?_
      rotate_left
      ·intro w'
       go_simp
       with_reducible rfl
      rotate_left
      ·simp only [Act.put, sqA, sq0, sq1, i64_w, i32_w]
       rfl
      refine pure_ (i := 9) (N := some 3) (v := ?_) (a' := ?_) #[true, true, true, true, true, true, true, true, true, true] rfl rfl (any_of HT_.out (by kernel_rfl)) (fun _ _ _ h => h) (Or.inl ⟨by rfl, ?_⟩) ?_ ?_
      rotate_left
      ·intro w'
       go_simp
       with_reducible rfl
      rotate_left
      ·simp only [Act.put, sqA, sq0, sq1, i64_w, i32_w]
       rfl
      refine done_ (done_of HT_.out (by kernel_rfl)) ?_
      try go_wp2
      go_roundg k1
      case measure => have := HK1.out; omega
      case rel => exact ⟨(t183), (true), (wrap64 (x4_1 + 1)), rfl, rfl, H', ⟨by have := HK1.out; omega⟩, ⟨by (with_reducible repeat (first | apply qrA | apply qrN | apply qrD)); exact HO_0.out⟩, ⟨by repeat (first | (with_reducible first | exact HK.out | apply Kept.alloc | apply Kept.drewN | apply Kept.drew | refine Kept.setCell ?_ (.inr GW180.out) _) | exact HK.out)⟩, ⟨by repeat (first | (with_reducible first | exact HB.out | apply qbA | apply qbN | apply qb1 | refine qbS ?_ GE180.out) | exact HB.out)⟩⟩
     ·replace c7 := qbE.mpr c7
      subst c7
      rw [if_neg (show ¬ (false = true) by decide)] at H
      have H' := aMk H
      clear H
      obtain ⟨Ao16, co16, eo16⟩ := Kd.R_slice HO_0.out
      subst eo16
      have p177 : 0 ≤ (x4_1 : Int) := qoD (by assumption)
      have q177 : x4_1 < (x0_1.length : Int) := qoD (by assumption)
      obtain ⟨ad177, e177, hx177_0⟩ := Kd.at_int (Kd.R_reads' HO_0.out).2.2 x4_1 p177 q177
      cases e177
      replace p177 := eq_true p177
      replace q177 := eq_true q177
      try go_wp2_with (first | ((with_reducible refine gate_callee (f := 199) rfl ?_); refine goesL_ (some 17) rfl rfl Tryz.func199 (by kernel_rfl) rfl #[.slice (some ad177) x0_1.length co16, .int .i64 (rd x0_1 x4_1)] rfl (by (try simp only [lm0, lm1, lm2]); first | done | rfl | (simp only [lm3, lm4]; rfl)) ?_; (with_reducible refine (naskhref04_hull.calls k1 _ _ x0_1 (rd x0_1 x4_1) t178 t179 _ ?side1 ?side2 A4.out).mono ?_); (case side1 => repeat (first | exact (Kd.R_reads' HO_0.out).2.2 | (with_reducible refine Kd.C_alloc ?_ _) | (with_reducible refine Kd.C_drewN ?_ _) | (with_reducible refine Kd.C_drew ?_))); (case side2 => exact (Kd.R_reads' HO_0.out).2.1); rintro e w17 ⟨rfl, hb⟩; refine ⟨_, rfl, ?_⟩; have n0_ := aMk (qrB HO_0.out hb); have n1_ := aMk (Kept.below (S := (fun k_ => P0_ k_)) HK.out hb); have n2_ := aMk (qbP HB.out hb); clear HO_0; clear HK; clear HB; have HO_0 := n0_; have HK := n1_; have HB := n2_; clear n0_ n1_ n2_; (try clear hi)) | ((with_reducible refine gate_dst (N := 5) rfl ?_); refine box_event ?hg (N := 5) ?hd (cs := #[.int .i64 0, .int .i64 0]) (t := 34) ?hr ?_; (case hd => rfl); (case hg => rfl); (case hr => go_simp; done); intro gb180 hg w18 hbox hb; have n0_ := aMk (qrB HO_0.out hb); have n1_ := aMk (Kept.below (S := (fun k_ => P0_ k_)) HK.out hb); have n2_ := aMk (qbP HB.out hb); have n3_ := aMk (hbox); have n4_ := aMk ((by rw [hg]; exact (by first | exact HK.out.1 | exact (show Kept w _ (fun k_ => P0_ k_) from by repeat (first | (with_reducible first | exact HK.out | apply Kept.alloc | apply Kept.drewN | apply Kept.drew) | exact HK.out)).1) : w.heap.size ≤ gb180)); have n5_ := aMk ((by rw [hg]; exact (qbZ HB.out) : w0.heap.size ≤ gb180)); clear HO_0; clear HK; clear HB; have HO_0 := n0_; have HK := n1_; have HB := n2_; have BK180 := n3_; have GW180 := n4_; have GE180 := n5_; clear n0_ n1_ n2_ n3_ n4_ n5_; clear hb hbox hg; have hcz19_0 : w18.cell? ⟨gb180, 0, none⟩ = some (.int .i64 0) := (blk_cell BK180.out 0).trans rfl; have hcz19_1 : w18.cell? ⟨gb180, 1, none⟩ = some (.int .i64 0) := (blk_cell BK180.out 1).trans rfl; have hfz19_0 := qbF BK180.out 0; have hfz19_1 := qbF BK180.out 1))
      have n0_ : Aside0 (Kd.R (Kd.int .i64) 3 ((w18.setCell ⟨gb180, 0, none⟩ (.int .i64 t178)).setCell ⟨gb180, 1, none⟩ (.int .i64 t179)) w0.heap.size (fun k_ => (P0_ k_ ∨ w.heap.size ≤ k_)) (.slice (some ad177) x0_1.length co16) x0_1) := ⟨by (with_reducible repeat (first | apply qrA | apply qrN | apply qrD)); exact qrM (Kd.R_far (p := ⟨gb180, 1, none⟩) (Kd.R_far (p := ⟨gb180, 0, none⟩) (Kd.R_types HO_0.out BK180.out (by decide)) (fun _ hk => hk.2) (.int .i64 t178)) (fun _ hk => hk.2) (.int .i64 t179)) (fun _ hk => hk.1)⟩
      have n1_ : Aside0 (((w18.setCell ⟨gb180, 0, none⟩ (.int .i64 t178)).setCell ⟨gb180, 1, none⟩ (.int .i64 t179)).heap[gb180]? = some (.cells #[.int .i64 t178, .int .i64 t179] 34 (0, 0))) := ⟨by refine blk_put (cs := #[.int .i64 t178, .int .i64 0]) ?_ 1 _ rfl; refine blk_put (cs := #[.int .i64 0, .int .i64 0]) ?_ 0 _ rfl; exact BK180.out⟩
      have n2_ : Aside0 (Kept w ((w18.setCell ⟨gb180, 0, none⟩ (.int .i64 t178)).setCell ⟨gb180, 1, none⟩ (.int .i64 t179)) (fun k_ => P0_ k_)) := ⟨by repeat (first | (with_reducible first | exact HK.out | apply Kept.alloc | apply Kept.drewN | apply Kept.drew | refine Kept.setCell ?_ (.inr GW180.out) _) | exact HK.out)⟩
      have n3_ : Aside0 (Below w0.heap.size w0 ((w18.setCell ⟨gb180, 0, none⟩ (.int .i64 t178)).setCell ⟨gb180, 1, none⟩ (.int .i64 t179))) := ⟨by repeat (first | (with_reducible first | exact HB.out | apply qbA | apply qbN | apply qb1 | refine qbS ?_ GE180.out) | exact HB.out)⟩
      (try clear HO_0)
      (try clear BK180)
      (try clear HK)
      (try clear HB)
      generalize ((w18.setCell ⟨gb180, 0, none⟩ (.int .i64 t178)).setCell ⟨gb180, 1, none⟩ (.int .i64 t179)) = w20 at n0_ n1_ n2_ n3_ ⊢
      have HO_0 := n0_
      have BK180 := n1_
      have HK := n2_
      have HB := n3_
      clear n0_ n1_ n2_ n3_
      have n0_ := aMk (qrD HO_0.out)
      have n1_ := aMk (blk_drew BK180.out)
      have n2_ := aMk (Kept.drew HK.out)
      have n3_ := aMk (qb1 HB.out)
      clear HO_0
      clear BK180
      clear HK
      clear HB
      have HO_0 := n0_
      have BK180 := n1_
      have HK := n2_
      have HB := n3_
      clear n0_ n1_ n2_ n3_
      refine start_ (n := 10) (S := fun w' => w'.cell? ⟨gb180, 0, none⟩ = some (.int .i64 t178) ∧ w'.cell? ⟨gb180, 1, none⟩ = some (.int .i64 t179)) (ds := []) #[false, false, false, false, false, false, false, false, false, false] (by kernel_rfl) rfl rfl ⟨(blk_cell BK180.out 0).trans rfl, (blk_cell BK180.out 1).trans rfl⟩ (fun hHeld => ?_); refine with_tabW naskhref04_whole.tab6 naskhref04_whole.bits6 (fun HT_ HW_ => ?_)
      generalize w20.drew = w21 at HO_0 BK180 HK HB hHeld ⊢
      refine pure_ (i := 0) (N := some 18) (v := ?_) (a' := ?_) #[true, false, false, false, false, false, false, false, false, false] rfl rfl (any_of HT_.out (by kernel_rfl)) (fun _ _ _ h => h) (Or.inl ⟨by rfl, ?_⟩) ?_ ?_
      rotate_left
      ·intro w'
       go_simp
       with_reducible rfl
      rotate_left
      ·simp only [Act.put, sqA, sq0, sq1, i64_w, i32_w]
       rfl
      refine pure_ (i := 2) (N := some 20) (v := ?_) (a' := ?_) #[true, false, true, false, false, false, false, false, false, false] rfl rfl (any_of HT_.out (by kernel_rfl)) (fun _ _ _ h => h) (Or.inl ⟨by rfl, ?_⟩) ?_ ?_
      rotate_left
      ·intro w'
       go_simp
       with_reducible rfl
      rotate_left
      ·simp only [Act.put, sqA, sq0, sq1, i64_w, i32_w]
       rfl
      refine take_ (i := 1) (N := some 19) (v := ?_) (a' := ?_) #[true, true, true, false, false, false, false, false, false, false] rfl rfl (take_ofW HT_.out HW_.out (by kernel_rfl)) (fun _ _ _ h => h) (Or.inl ⟨by rfl, ?_⟩) hHeld ?_ ?_
      rotate_left
      ·rintro w' ⟨s0, s1⟩
       go_simp
       with_reducible rfl
      rotate_left
      ·simp only [Act.put, sqA, sq0, sq1, i64_w, i32_w]
       rfl
      refine take_ (i := 3) (N := some 21) (v := ?_) (a' := ?_) #[true, true, true, true, false, false, false, false, false, false] rfl rfl (take_ofW HT_.out HW_.out (by kernel_rfl)) (fun _ _ _ h => h) (Or.inl ⟨by rfl, ?_⟩) hHeld ?_ ?_
      rotate_left
      ·rintro w' ⟨s0, s1⟩
       go_simp
       with_reducible rfl
      rotate_left
      ·simp only [Act.put, sqA, sq0, sq1, i64_w, i32_w]
       rfl
      refine one_ (i := 4) (N := some 22) #[true, true, true, true, true, false, false, false, false, false] rfl rfl (one_of HT_.out (by kernel_rfl)) (by decide) (fun K hK => ?_)
      refine goes_ Tryz.func254 (by kernel_rfl) rfl #[.slice (some ad177) x0_1.length co16, .agg #[.int .i64 t178, .int .i64 t179]] (by rfl) rfl rfl (by (try simp only [lm0, lm1, lm2]); first | done | rfl | (simp only [lm3, lm4]; rfl)) ?_
      with_reducible refine (naskhref04_least.calls k1 _ _ x0_1 t178 t179 t181 _ ?side1 ?side2 A5.out).mono ?_
      (case side1 => repeat (first | exact (Kd.R_reads' HO_0.out).2.2 | (with_reducible refine Kd.C_alloc ?_ _) | (with_reducible refine Kd.C_drewN ?_ _) | (with_reducible refine Kd.C_drew ?_)))
      (case side2 => exact (Kd.R_reads' HO_0.out).2.1)
      rintro e w22 ⟨rfl, hb⟩
      refine ⟨_, rfl, ?_⟩
      have n0_ := aMk (qrB HO_0.out hb)
      have n1_ := aMk (blk_below (g := gb180) (o := .cells #[.int .i64 t178, .int .i64 t179] 34 (0, 0)) (by exact BK180.out) hb)
      have n2_ := aMk (Kept.below (S := (fun k_ => P0_ k_)) HK.out hb)
      have n3_ := aMk (qbP HB.out hb)
      clear HO_0
      clear BK180
      clear HK
      clear HB
      have HO_0 := n0_
      have BK180 := n1_
      have HK := n2_
      have HB := n3_
      clear n0_ n1_ n2_ n3_
      (try clear hb)
      (try clear hb2)
      (try clear hk)
      (try clear hi)
      refine hK.out _ _ ⟨(blk_cell BK180.out 0).trans rfl, (blk_cell BK180.out 1).trans rfl⟩ (fun hHeld => ?_)
      clear hK K
      refine norm_ (a' := ?_) ?_ ?_
      rotate_left
      ·show Act.put _ (some 22) _ = _
       simp only [Act.put, sqA, sq0, sq1, i64_w, i32_w]
       rfl
      refine one_ (i := 5) (N := some 23) #[true, true, true, true, true, true, false, false, false, false] rfl rfl (one_of HT_.out (by kernel_rfl)) (by decide) (fun K hK => ?_)
      refine goes_ Tryz.func255 (by kernel_rfl) rfl #[.slice (some ad177) x0_1.length co16, .agg #[.int .i64 t178, .int .i64 t179], .int .i64 t181] (by rfl) rfl rfl (by (try simp only [lm0, lm1, lm2]); first | done | rfl | (simp only [lm3, lm4]; rfl)) ?_
      with_reducible refine (naskhref04_same.calls k1 (fun k_ => some k_ = (.slice (some ad177) x0_1.length co16 : Value).ownBlock) (.slice (some ad177) x0_1.length co16) x0_1 t178 t179 t181 false t183 w0 _ ?side1 ?side2 A6.out).mono ?_
      (case side1 => repeat (first | (with_reducible first | exact HB.out | apply qbA | apply qbN | apply qb1 | refine qbS ?_ GE180.out) | exact HB.out))
      (case side2 => exact Kd.R_tight rfl HO_0.out)
      rintro e w23 ⟨rfl, hy0, hb, hkp⟩
      refine ⟨_, rfl, ?_⟩
      have n0_ := aMk (Kd.R_reok rfl hy0 (fun k_ e_ => HO_0.out.1 k_ e_))
      have n1_ := aMk (blk_kept (by exact BK180.out) hkp (fun hs_ => (fun e_ => (Kd.R_ne HO_0.out BK180.out (by decide)) e_) hs_))
      have n2_ := aMk (Kept.then_ (S := (fun k_ => P0_ k_)) HK.out hkp (fun k_ hs_ => (fun e_ => (HO_0.out.1 k_ e_.symm)) hs_))
      have n3_ := aMk (hb)
      clear HO_0
      clear BK180
      clear HK
      clear HB
      have HO_0 := n0_
      have BK180 := n1_
      have HK := n2_
      have HB := n3_
      clear n0_ n1_ n2_ n3_
      (try clear hb)
      (try clear hkp)
      (try clear hy0)
      refine hK.out _ _ ⟨(blk_cell BK180.out 0).trans rfl, (blk_cell BK180.out 1).trans rfl⟩ (fun hHeld => ?_)
      clear hK K
      refine norm_ (a' := ?_) ?_ ?_
      rotate_left
      ·show Act.put _ (some 23) _ = _
       simp only [Act.put, sqA, sq0, sq1, i64_w, i32_w]
       rfl
      refine pure_ (i := 6) (N := some 24) (v := ?_) (a' := ?_) #[true, true, true, true, true, true, true, false, false, false] rfl rfl (any_of HT_.out (by kernel_rfl)) (fun _ _ _ h => h) (Or.inl ⟨by rfl, ?_⟩) ?_ ?_
      rotate_left
      ·intro w'
       go_simp
       with_reducible rfl
      rotate_left
      ·simp only [Act.put, sqA, sq0, sq1, i64_w, i32_w]
       rfl
      refine pure_ (i := 7) (N := some 25) (v := ?_) (a' := ?_) #[true, true, true, true, true, true, true, true, false, false] rfl rfl (any_of HT_.out (by kernel_rfl)) (fun _ _ _ h => h) (Or.inl ⟨by rfl, ?_⟩) ?_ ?_
      rotate_left
      ·intro w'
       go_simp
       with_reducible rfl
      rotate_left
      ·simp only [Act.put, sqA, sq0, sq1, i64_w, i32_w]
       rfl
      refine pure_ (i := 8) (N := some 26) (v := ?_) (a' := ?_) #[true, true, true, true, true, true, true, true, true, false] rfl rfl (any_of HT_.out (by kernel_rfl)) (fun _ _ _ h => h) (Or.inl ⟨by rfl, ?_⟩) ?_ ?_
      rotate_left
      ·intro w'
       go_simp
       with_reducible rfl
      rotate_left
      ·simp only [Act.put, sqA, sq0, sq1, i64_w, i32_w]
       rfl
      refine pure_ (i := 9) (N := some 3) (v := ?_) (a' := ?_) #[true, true, true, true, true, true, true, true, true, true] rfl rfl (any_of HT_.out (by kernel_rfl)) (fun _ _ _ h => h) (Or.inl ⟨by rfl, ?_⟩) ?_ ?_
      rotate_left
      ·intro w'
       go_simp
       with_reducible rfl
      rotate_left
      ·simp only [Act.put, sqA, sq0, sq1, i64_w, i32_w]
       rfl
      refine done_ (done_of HT_.out (by kernel_rfl)) ?_
      try go_wp2
      go_roundg k1
      case measure => have := HK1.out; omega
      case rel => exact ⟨(t183), (x3_1), (wrap64 (x4_1 + 1)), rfl, rfl, H', ⟨by have := HK1.out; omega⟩, ⟨by (with_reducible repeat (first | apply qrA | apply qrN | apply qrD)); exact HO_0.out⟩, ⟨by repeat (first | (with_reducible first | exact HK.out | apply Kept.alloc | apply Kept.drewN | apply Kept.drew | refine Kept.setCell ?_ (.inr GW180.out) _) | exact HK.out)⟩, ⟨by repeat (first | (with_reducible first | exact HB.out | apply qbA | apply qbN | apply qb1 | refine qbS ?_ GE180.out) | exact HB.out)⟩⟩
    ·rw [if_neg c3] at H
     exact absurd H (by simp)
   ·rw [if_neg c2] at H
    have c2b0 := qdF c2
    clear c2
    simp only [Option.some.injEq, Prod.mk.injEq] at H
    obtain ⟨rfl, rfl⟩ := H
    obtain ⟨Ao24, co24, eo24⟩ := Kd.R_slice HO_0.out
    subst eo24
    go_wp2
    go_ret
    exact ⟨rfl, by (with_reducible repeat (first | apply qrA | apply qrN | apply qrD)); exact HO_0.out, by repeat (first | (with_reducible first | exact HB.out | apply qbA | apply qbN | apply qb1) | exact HB.out), by repeat (first | (with_reducible first | exact HK.out | apply Kept.alloc | apply Kept.drewN | apply Kept.drew) | exact HK.out)⟩
def naskhref04_turn.l0 : Nat → List Int → List Int → List (S45) → Bool → Int → Option (Bool × List Int × List Int)
 | 0, _, _, _, _, _ => none
 | k + 1, x0, x1, x2, x7, x8 => if x8 < (x2.length : Int) then (if 0 ≤ x8 then ((naskhref04_least.f k x0 ((rd_T45 x2 x8).f0.f0) ((rd_T45 x2 x8).f0.f1)).bind fun t192 => ((naskhref03_Right.f ((rd_T45 x2 x8).f1.f0) ((rd_T45 x2 x8).f1.f1)).bind fun t193 => (if t193 = true then ((naskhref04_least.f k x1 ((rd_T45 x2 x8).f1.f0) ((rd_T45 x2 x8).f1.f1)).bind fun t194 => ((naskhref04_same.f k x1 ((rd_T45 x2 x8).f1.f0) ((rd_T45 x2 x8).f1.f1) (mn t192 t194)).bind fun bt195 => (if bt195.1 = true then ((naskhref04_same.f k x0 ((rd_T45 x2 x8).f0.f0) ((rd_T45 x2 x8).f0.f1) (mn t192 t194)).bind fun bt197 => (if bt197.1 = true then (naskhref04_turn.l0 k bt197.2 bt195.2 x2 true (wrap64 (x8 + 1))) else (naskhref04_turn.l0 k bt197.2 bt195.2 x2 true (wrap64 (x8 + 1))))) else ((naskhref04_same.f k x0 ((rd_T45 x2 x8).f0.f0) ((rd_T45 x2 x8).f0.f1) (mn t192 t194)).bind fun bt199 => (if bt199.1 = true then (naskhref04_turn.l0 k bt199.2 bt195.2 x2 true (wrap64 (x8 + 1))) else (naskhref04_turn.l0 k bt199.2 bt195.2 x2 x7 (wrap64 (x8 + 1)))))))) else ((naskhref04_same.f k x0 ((rd_T45 x2 x8).f0.f0) ((rd_T45 x2 x8).f0.f1) t192).bind fun bt201 => (if bt201.1 = true then (naskhref04_turn.l0 k bt201.2 x1 x2 true (wrap64 (x8 + 1))) else (naskhref04_turn.l0 k bt201.2 x1 x2 x7 (wrap64 (x8 + 1)))))))) else (none)) else ((naskhref04_whole.f k x0).bind fun bt184 => (if bt184.1 = true then ((naskhref04_whole.f k x1).bind fun bt186 => (if bt186.1 = true then (some (true, bt184.2, bt186.2)) else (some (true, bt184.2, bt186.2)))) else ((naskhref04_whole.f k x1).bind fun bt188 => (if bt188.1 = true then (some (true, bt184.2, bt188.2)) else (some (x7, bt184.2, bt188.2))))))
def naskhref04_turn.f (k : Nat) (l0 : List Int) (l1 : List Int) (l2 : List (S45)) : Option (Bool × List Int × List Int) := naskhref04_turn.l0 k l0 l1 l2 false 0
theorem naskhref04_turn.calls (k : Nat) (P0_ : Nat → Prop) (u9000_ : Value) (l0 : List Int) (P1_ : Nat → Prop) (u9001_ : Value) (l1 : List Int) (A2 : Option Addr) (c2 : Nat) (l2 : List (S45)) (r1 : Bool) (r2 : List Int) (r3 : List Int) (w0 w : World) (hB : Below w0.heap.size w0 w) (ho0 : Kd.R (Kd.int .i64) 3 w w0.heap.size P0_ u9000_ l0) (hp0_1 : ∀ k_, P0_ k_ → ¬ P1_ k_) (ho1 : Kd.R (Kd.int .i64) 3 w w0.heap.size P1_ u9001_ l1) (hp1_0 : ∀ k_, P1_ k_ → ¬ P0_ k_) (hr2 : ∀ W_, Kept w W_ (fun k_ => P0_ k_ ∨ P1_ k_) → Kd.C k45 W_ A2 l2.length l2) (hc2 : l2.length ≤ c2) (h : naskhref04_turn.f k l0 l1 l2 = some (r1, r2, r3)) :
 Calls Tryz.prog 198 #[u9000_, u9001_, .slice A2 l2.length c2] w fun e w' => e = .returned (.bool r1) ∧ Kd.R (Kd.int .i64) 3 w' w0.heap.size (fun k_ => ((P0_ k_ ∨ P1_ k_) ∨ w.heap.size ≤ k_)) u9000_ r2 ∧ Kd.R (Kd.int .i64) 3 w' w0.heap.size (fun k_ => ((P0_ k_ ∨ P1_ k_) ∨ w.heap.size ≤ k_)) u9001_ r3 ∧ Below w0.heap.size w0 w' ∧ Kept w w' (fun k_ => P0_ k_ ∨ P1_ k_) := by
 have hu45 := Tryz.underlying36
 have hu33 := Tryz.underlying34
 have HO0 := aMk (show Kd.R (Kd.int .i64) 3 w w0.heap.size (fun k_ => ((P0_ k_ ∨ P1_ k_) ∨ w.heap.size ≤ k_) ∧ some k_ ≠ (u9001_ : Value).ownBlock) u9000_ l0 from qrM ho0 (fun k_ hk => ⟨(.inl (.inl hk)), fun e_ => hp0_1 k_ hk (ho1.1 k_ e_.symm)⟩))
 have HO1 := aMk (show Kd.R (Kd.int .i64) 3 w w0.heap.size (fun k_ => ((P0_ k_ ∨ P1_ k_) ∨ w.heap.size ≤ k_) ∧ some k_ ≠ (u9000_ : Value).ownBlock) u9001_ l1 from qrM ho1 (fun k_ hk => ⟨(.inl (.inr hk)), fun e_ => hp1_0 k_ hk (ho0.1 k_ e_.symm)⟩))
 have HR2 := aMk hr2
 have HC2 := aMk hc2
 clear hr2 hc2
 have HK := aMk (Kept.refl w (fun k_ => P0_ k_ ∨ P1_ k_))
 have HW0 := aMk hB.size
 have HB := aMk hB; clear hB
 have H : (naskhref04_turn.l0 k l0 l1 l2 false 0) = some (r1, r2, r3) := h
 clear h
 have H' := aMk H
 clear H
 go_enter Tryz.func198, Tryz.ntmps198
 go_wp2
 go_loopg [7, 8] k (fun kq v7 v8 w' => ∃ (x0_1 : List Int) (x1_1 : List Int) (x7_1 : Bool) (x8_1 : Int), v7 = .bool x7_1 ∧ v8 = .int .i64 x8_1 ∧ Aside0 (naskhref04_turn.l0 kq x0_1 x1_1 l2 x7_1 x8_1 = some (r1, r2, r3)) ∧ Aside0 (kq ≤ k) ∧ Aside0 (Kd.R (Kd.int .i64) 3 w' w0.heap.size (fun k_ => ((P0_ k_ ∨ P1_ k_) ∨ w.heap.size ≤ k_) ∧ some k_ ≠ (u9001_ : Value).ownBlock) u9000_ x0_1) ∧ Aside0 (Kd.R (Kd.int .i64) 3 w' w0.heap.size (fun k_ => ((P0_ k_ ∨ P1_ k_) ∨ w.heap.size ≤ k_) ∧ some k_ ≠ (u9000_ : Value).ownBlock) u9001_ x1_1) ∧ Aside0 (Kept w w' (fun k_ => P0_ k_ ∨ P1_ k_)) ∧ Aside0 (Below w0.heap.size w0 w'))
 case atStart => exact ⟨(l0), (l1), (false), (0), rfl, rfl, H', ⟨qlR _⟩, ⟨by (with_reducible repeat (first | apply qrA | apply qrN | apply qrD)); exact HO0.out⟩, ⟨by (with_reducible repeat (first | apply qrA | apply qrN | apply qrD)); exact HO1.out⟩, ⟨by repeat (first | (with_reducible first | exact HK.out | apply Kept.alloc | apply Kept.drewN | apply Kept.drew) | exact HK.out)⟩, ⟨by repeat (first | (with_reducible first | exact HB.out | apply qbA | apply qbN | apply qb1) | exact HB.out)⟩⟩
 case round =>
  clear H'
  obtain ⟨x0_1, x1_1, x7_1, x8_1, rfl, rfl, HA, HK1, HO_0, HO_1, HK, HB⟩ := hrel
  cases gk with
  | zero => exact absurd HA.out (by simp [naskhref04_turn.l0])
  | succ k1 =>
   have H := HA.out
   clear HA
   simp only [naskhref04_turn.l0] at H
   by_cases c4 : x8_1 < (l2.length : Int)
   ·rw [if_pos c4] at H
    have c4b0 := qdT c4
    clear c4
    by_cases c5 : 0 ≤ x8_1
    ·rw [if_pos c5] at H
     have c5b0 := qdT c5
     clear c5
     replace H := qoB.mp H
     obtain ⟨t192, A60, H⟩ := H
     try dsimp only at H
     have A6 := aMk A60; clear A60
     replace H := qoB.mp H
     obtain ⟨t193, A70, H⟩ := H
     try dsimp only at H
     have A7 := aMk A70; clear A70
     by_cases c8 : t193 = true
     ·subst c8
      rw [if_pos rfl] at H
      replace H := qoB.mp H
      obtain ⟨t194, A90, H⟩ := H
      try dsimp only at H
      have A9 := aMk A90; clear A90
      obtain ⟨ji10, hji10⟩ : ∃ j_ : Int, (mn t192 t194) = j_ := ⟨_, rfl⟩
      replace H : ((naskhref04_same.f k1 x1_1 ((rd_T45 l2 x8_1).f1.f0) ((rd_T45 l2 x8_1).f1.f1) (ji10)).bind fun bt195 => (if bt195.1 = true then ((naskhref04_same.f k1 x0_1 ((rd_T45 l2 x8_1).f0.f0) ((rd_T45 l2 x8_1).f0.f1) (ji10)).bind fun bt197 => (if bt197.1 = true then (naskhref04_turn.l0 k1 bt197.2 bt195.2 l2 true (wrap64 (x8_1 + 1))) else (naskhref04_turn.l0 k1 bt197.2 bt195.2 l2 true (wrap64 (x8_1 + 1))))) else ((naskhref04_same.f k1 x0_1 ((rd_T45 l2 x8_1).f0.f0) ((rd_T45 l2 x8_1).f0.f1) (ji10)).bind fun bt199 => (if bt199.1 = true then (naskhref04_turn.l0 k1 bt199.2 bt195.2 l2 true (wrap64 (x8_1 + 1))) else (naskhref04_turn.l0 k1 bt199.2 bt195.2 l2 x7_1 (wrap64 (x8_1 + 1))))))) = some (r1, r2, r3) := by first | (rw [hji10] at H; exact H) | (simp only [hji10] at H ⊢; exact H)
      (try rw [hji10] at A6)
      (try rw [hji10] at A7)
      (try rw [hji10] at A9)
      have hji10_ : (if t194 < t192 then t194 else t192) = ji10 := hji10
      replace H := qoB.mp H
      obtain ⟨⟨t195, t196⟩, A110, H⟩ := H
      try dsimp only at H
      have A11 := aMk A110; clear A110
      cases t195
      all_goals
       first | rw [if_pos rfl] at H | rw [if_neg (show ¬ (false = true) by decide)] at H
       replace H := qoB.mp H
       obtain ⟨⟨t197, t198⟩, A130, H⟩ := H
       try dsimp only at H
       have A13 := aMk A130; clear A130
       cases t197
       all_goals
        first | rw [if_pos rfl] at H | rw [if_neg (show ¬ (false = true) by decide)] at H
        have H' := aMk H
        clear H
        have p190 : 0 ≤ (x8_1 : Int) := qoD (by assumption)
        have q190 : x8_1 < (l2.length : Int) := qoD (by assumption)
        obtain ⟨ad190, e190, hx190_0, hx190_1, hx190_2, hx190_3⟩ := at_T45 (Kd.C_kept_now HR2.out HK.out) x8_1 p190 q190
        cases e190
        replace p190 := eq_true p190
        replace q190 := eq_true q190
        go_wp2_with (first | ((with_reducible refine gate_dst (N := 9) rfl ?_); refine box_event ?hg (N := 9) ?hd (cs := #[.int .i64 0, .int .i64 0, .int .i64 0, .int .i64 0]) (t := 36) ?hr ?_; (case hd => rfl); (case hg => rfl); (case hr => go_simp; done); intro gb191 hg w15 hbox hb; have n0_ := aMk (qrB (by (with_reducible repeat (first | apply qrA | apply qrN | apply qrD)); exact HO_0.out) hb); have n1_ := aMk (qrB (by (with_reducible repeat (first | apply qrA | apply qrN | apply qrD)); exact HO_1.out) hb); have n2_ := aMk (Kept.below (S := (fun k_ => P0_ k_ ∨ P1_ k_)) (by repeat (first | (with_reducible first | exact HK.out | apply Kept.alloc | apply Kept.drewN | apply Kept.drew) | exact HK.out)) hb); have n3_ := aMk (qbP (by repeat (first | (with_reducible first | exact HB.out | apply qbA | apply qbN | apply qb1) | exact HB.out)) hb); have n4_ := aMk (hbox); have n5_ := aMk ((by rw [hg]; exact (by first | exact HK.out.1 | exact (show Kept w _ (fun k_ => P0_ k_ ∨ P1_ k_) from by repeat (first | (with_reducible first | exact HK.out | apply Kept.alloc | apply Kept.drewN | apply Kept.drew) | exact HK.out)).1) : w.heap.size ≤ gb191)); have n6_ := aMk ((by rw [hg]; exact (qbZ (by repeat (first | (with_reducible first | exact HB.out | apply qbA | apply qbN | apply qb1) | exact HB.out))) : w0.heap.size ≤ gb191)); clear HO_0; clear HO_1; clear HK; clear HB; have HO_0 := n0_; have HO_1 := n1_; have HK := n2_; have HB := n3_; have BK191 := n4_; have GW191 := n5_; have GE191 := n6_; clear n0_ n1_ n2_ n3_ n4_ n5_ n6_; clear hb hbox hg; have hcz16_0 : w15.cell? ⟨gb191, 0, none⟩ = some (.int .i64 0) := (blk_cell BK191.out 0).trans rfl; have hcz16_1 : w15.cell? ⟨gb191, 1, none⟩ = some (.int .i64 0) := (blk_cell BK191.out 1).trans rfl; have hcz16_2 : w15.cell? ⟨gb191, 2, none⟩ = some (.int .i64 0) := (blk_cell BK191.out 2).trans rfl; have hcz16_3 : w15.cell? ⟨gb191, 3, none⟩ = some (.int .i64 0) := (blk_cell BK191.out 3).trans rfl; have hfz16_0 := qbF BK191.out 0; have hfz16_1 := qbF BK191.out 1; have hfz16_2 := qbF BK191.out 2; have hfz16_3 := qbF BK191.out 3; obtain ⟨Ao17, co17, eo17⟩ := Kd.R_slice HO_0.out; subst eo17) | ((with_reducible refine gate_callee (f := 254) rfl ?_); refine goesL_ (some 24) rfl rfl Tryz.func254 (by kernel_rfl) rfl #[.slice Ao17 x0_1.length co17, .agg #[.int .i64 ((rd_T45 l2 x8_1).f0.f0), .int .i64 ((rd_T45 l2 x8_1).f0.f1)]] rfl (by (try simp only [lm0, lm1, lm2]); first | done | rfl | (simp only [lm3, lm4]; rfl)) ?_; (with_reducible refine (naskhref04_least.calls k1 _ _ x0_1 ((rd_T45 l2 x8_1).f0.f0) ((rd_T45 l2 x8_1).f0.f1) t192 _ ?side1 ?side2 A6.out).mono ?_); (case side1 => refine (Kd.R_reads' (e := 3) (base := w0.heap.size) (ok := fun k_ => (((P0_ k_ ∨ P1_ k_) ∨ w.heap.size ≤ k_) ∧ some k_ ≠ (u9001_ : Value).ownBlock)) (n := x0_1.length) (c := co17) ?_).2.2; exact (by (with_reducible repeat (first | apply qrA | apply qrN | apply qrD)); exact (qrM (Kd.R_far (p := ⟨gb191, 3, none⟩) (Kd.R_far (p := ⟨gb191, 2, none⟩) (Kd.R_far (p := ⟨gb191, 1, none⟩) (Kd.R_far (p := ⟨gb191, 0, none⟩) (Kd.R_types HO_0.out BK191.out (by decide)) (fun _ hk => hk.2) (.int .i64 ((rd_T45 l2 x8_1).f0.f0))) (fun _ hk => hk.2) (.int .i64 ((rd_T45 l2 x8_1).f0.f1))) (fun _ hk => hk.2) (.int .i64 ((rd_T45 l2 x8_1).f1.f0))) (fun _ hk => hk.2) (.int .i64 ((rd_T45 l2 x8_1).f1.f1))) (fun _ h_ => h_.1)))); (case side2 => exact (Kd.R_reads' HO_0.out).2.1); rintro e w18 ⟨rfl, hb⟩; refine ⟨_, rfl, ?_⟩; have n0_ := aMk (qrB (by (with_reducible repeat (first | apply qrA | apply qrN | apply qrD)); exact (qrM (Kd.R_far (p := ⟨gb191, 3, none⟩) (Kd.R_far (p := ⟨gb191, 2, none⟩) (Kd.R_far (p := ⟨gb191, 1, none⟩) (Kd.R_far (p := ⟨gb191, 0, none⟩) (Kd.R_types HO_0.out BK191.out (by decide)) (fun _ hk => hk.2) (.int .i64 ((rd_T45 l2 x8_1).f0.f0))) (fun _ hk => hk.2) (.int .i64 ((rd_T45 l2 x8_1).f0.f1))) (fun _ hk => hk.2) (.int .i64 ((rd_T45 l2 x8_1).f1.f0))) (fun _ hk => hk.2) (.int .i64 ((rd_T45 l2 x8_1).f1.f1))) (fun _ h_ => h_.1))) hb); have n1_ := aMk (qrB (by (with_reducible repeat (first | apply qrA | apply qrN | apply qrD)); exact (qrM (Kd.R_far (p := ⟨gb191, 3, none⟩) (Kd.R_far (p := ⟨gb191, 2, none⟩) (Kd.R_far (p := ⟨gb191, 1, none⟩) (Kd.R_far (p := ⟨gb191, 0, none⟩) (Kd.R_types HO_1.out BK191.out (by decide)) (fun _ hk => hk.2) (.int .i64 ((rd_T45 l2 x8_1).f0.f0))) (fun _ hk => hk.2) (.int .i64 ((rd_T45 l2 x8_1).f0.f1))) (fun _ hk => hk.2) (.int .i64 ((rd_T45 l2 x8_1).f1.f0))) (fun _ hk => hk.2) (.int .i64 ((rd_T45 l2 x8_1).f1.f1))) (fun _ h_ => h_.1))) hb); have n2_ := aMk (blk_below (g := gb191) (o := .cells #[.int .i64 ((rd_T45 l2 x8_1).f0.f0), .int .i64 ((rd_T45 l2 x8_1).f0.f1), .int .i64 ((rd_T45 l2 x8_1).f1.f0), .int .i64 ((rd_T45 l2 x8_1).f1.f1)] 36 (0, 0)) (by refine blk_put (cs := #[.int .i64 ((rd_T45 l2 x8_1).f0.f0), .int .i64 ((rd_T45 l2 x8_1).f0.f1), .int .i64 ((rd_T45 l2 x8_1).f1.f0), .int .i64 0]) ?_ 3 _ rfl; refine blk_put (cs := #[.int .i64 ((rd_T45 l2 x8_1).f0.f0), .int .i64 ((rd_T45 l2 x8_1).f0.f1), .int .i64 0, .int .i64 0]) ?_ 2 _ rfl; refine blk_put (cs := #[.int .i64 ((rd_T45 l2 x8_1).f0.f0), .int .i64 0, .int .i64 0, .int .i64 0]) ?_ 1 _ rfl; refine blk_put (cs := #[.int .i64 0, .int .i64 0, .int .i64 0, .int .i64 0]) ?_ 0 _ rfl; exact BK191.out) hb); have n3_ := aMk (Kept.below (S := (fun k_ => P0_ k_ ∨ P1_ k_)) (by repeat (first | (with_reducible first | exact HK.out | apply Kept.alloc | apply Kept.drewN | apply Kept.drew | refine Kept.setCell ?_ (.inr GW191.out) _) | exact HK.out)) hb); have n4_ := aMk (qbP (by repeat (first | (with_reducible first | exact HB.out | apply qbA | apply qbN | apply qb1 | refine qbS ?_ GE191.out) | exact HB.out)) hb); clear HO_0; clear HO_1; clear BK191; clear HK; clear HB; have HO_0 := n0_; have HO_1 := n1_; have BK191 := n2_; have HK := n3_; have HB := n4_; clear n0_ n1_ n2_ n3_ n4_; have hcz19_0 : w18.cell? ⟨gb191, 0, none⟩ = some (.int .i64 ((rd_T45 l2 x8_1).f0.f0)) := (blk_cell BK191.out 0).trans rfl; have hcz19_1 : w18.cell? ⟨gb191, 1, none⟩ = some (.int .i64 ((rd_T45 l2 x8_1).f0.f1)) := (blk_cell BK191.out 1).trans rfl; have hcz19_2 : w18.cell? ⟨gb191, 2, none⟩ = some (.int .i64 ((rd_T45 l2 x8_1).f1.f0)) := (blk_cell BK191.out 2).trans rfl; have hcz19_3 : w18.cell? ⟨gb191, 3, none⟩ = some (.int .i64 ((rd_T45 l2 x8_1).f1.f1)) := (blk_cell BK191.out 3).trans rfl; have hfz19_0 := qbF BK191.out 0; have hfz19_1 := qbF BK191.out 1; have hfz19_2 := qbF BK191.out 2; have hfz19_3 := qbF BK191.out 3) | ((with_reducible refine gate_callee (f := 167) rfl ?_); refine goesL_ (some 27) rfl rfl Tryz.func167 (by kernel_rfl) rfl #[.agg #[.int .i64 ((rd_T45 l2 x8_1).f1.f0), .int .i64 ((rd_T45 l2 x8_1).f1.f1)]] rfl (by (try simp only [lm0, lm1, lm2]); first | done | rfl | (simp only [lm3, lm4]; rfl)) ?_; (with_reducible refine (naskhref03_Right.calls ((rd_T45 l2 x8_1).f1.f0) ((rd_T45 l2 x8_1).f1.f1) true _ A7.out).mono ?_); rintro e w20 ⟨rfl, hb⟩; refine ⟨_, rfl, ?_⟩; have n0_ := aMk (qrB (by (with_reducible repeat (first | apply qrA | apply qrN | apply qrD)); exact HO_0.out) hb); have n1_ := aMk (qrB (by (with_reducible repeat (first | apply qrA | apply qrN | apply qrD)); exact HO_1.out) hb); have n2_ := aMk (blk_below (g := gb191) (o := .cells #[.int .i64 ((rd_T45 l2 x8_1).f0.f0), .int .i64 ((rd_T45 l2 x8_1).f0.f1), .int .i64 ((rd_T45 l2 x8_1).f1.f0), .int .i64 ((rd_T45 l2 x8_1).f1.f1)] 36 (0, 0)) (by exact BK191.out) hb); have n3_ := aMk (Kept.below (S := (fun k_ => P0_ k_ ∨ P1_ k_)) (by repeat (first | (with_reducible first | exact HK.out | apply Kept.alloc | apply Kept.drewN | apply Kept.drew | refine Kept.setCell ?_ (.inr GW191.out) _) | exact HK.out)) hb); have n4_ := aMk (qbP (by repeat (first | (with_reducible first | exact HB.out | apply qbA | apply qbN | apply qb1 | refine qbS ?_ GE191.out) | exact HB.out)) hb); clear HO_0; clear HO_1; clear BK191; clear HK; clear HB; have HO_0 := n0_; have HO_1 := n1_; have BK191 := n2_; have HK := n3_; have HB := n4_; clear n0_ n1_ n2_ n3_ n4_; have hcz21_0 : w20.cell? ⟨gb191, 0, none⟩ = some (.int .i64 ((rd_T45 l2 x8_1).f0.f0)) := (blk_cell BK191.out 0).trans rfl; have hcz21_1 : w20.cell? ⟨gb191, 1, none⟩ = some (.int .i64 ((rd_T45 l2 x8_1).f0.f1)) := (blk_cell BK191.out 1).trans rfl; have hcz21_2 : w20.cell? ⟨gb191, 2, none⟩ = some (.int .i64 ((rd_T45 l2 x8_1).f1.f0)) := (blk_cell BK191.out 2).trans rfl; have hcz21_3 : w20.cell? ⟨gb191, 3, none⟩ = some (.int .i64 ((rd_T45 l2 x8_1).f1.f1)) := (blk_cell BK191.out 3).trans rfl; have hfz21_0 := qbF BK191.out 0; have hfz21_1 := qbF BK191.out 1; have hfz21_2 := qbF BK191.out 2; have hfz21_3 := qbF BK191.out 3; obtain ⟨Ao22, co22, eo22⟩ := Kd.R_slice HO_1.out; subst eo22) | ((with_reducible refine gate_callee (f := 254) rfl ?_); refine goesL_ (some 32) rfl rfl Tryz.func254 (by kernel_rfl) rfl #[.slice Ao22 x1_1.length co22, .agg #[.int .i64 ((rd_T45 l2 x8_1).f1.f0), .int .i64 ((rd_T45 l2 x8_1).f1.f1)]] rfl (by (try simp only [lm0, lm1, lm2]); first | done | rfl | (simp only [lm3, lm4]; rfl)) ?_; (with_reducible refine (naskhref04_least.calls k1 _ _ x1_1 ((rd_T45 l2 x8_1).f1.f0) ((rd_T45 l2 x8_1).f1.f1) t194 _ ?side1 ?side2 A9.out).mono ?_); (case side1 => repeat (first | exact (Kd.R_reads' HO_1.out).2.2 | (with_reducible refine Kd.C_alloc ?_ _) | (with_reducible refine Kd.C_drewN ?_ _) | (with_reducible refine Kd.C_drew ?_))); (case side2 => exact (Kd.R_reads' HO_1.out).2.1); rintro e w23 ⟨rfl, hb⟩; refine ⟨_, rfl, ?_⟩; have n0_ := aMk (qrB (by (with_reducible repeat (first | apply qrA | apply qrN | apply qrD)); exact HO_0.out) hb); have n1_ := aMk (qrB (by (with_reducible repeat (first | apply qrA | apply qrN | apply qrD)); exact HO_1.out) hb); have n2_ := aMk (blk_below (g := gb191) (o := .cells #[.int .i64 ((rd_T45 l2 x8_1).f0.f0), .int .i64 ((rd_T45 l2 x8_1).f0.f1), .int .i64 ((rd_T45 l2 x8_1).f1.f0), .int .i64 ((rd_T45 l2 x8_1).f1.f1)] 36 (0, 0)) (by exact BK191.out) hb); have n3_ := aMk (Kept.below (S := (fun k_ => P0_ k_ ∨ P1_ k_)) (by repeat (first | (with_reducible first | exact HK.out | apply Kept.alloc | apply Kept.drewN | apply Kept.drew | refine Kept.setCell ?_ (.inr GW191.out) _) | exact HK.out)) hb); have n4_ := aMk (qbP (by repeat (first | (with_reducible first | exact HB.out | apply qbA | apply qbN | apply qb1 | refine qbS ?_ GE191.out) | exact HB.out)) hb); clear HO_0; clear HO_1; clear BK191; clear HK; clear HB; have HO_0 := n0_; have HO_1 := n1_; have BK191 := n2_; have HK := n3_; have HB := n4_; clear n0_ n1_ n2_ n3_ n4_; have hcz24_0 : w23.cell? ⟨gb191, 0, none⟩ = some (.int .i64 ((rd_T45 l2 x8_1).f0.f0)) := (blk_cell BK191.out 0).trans rfl; have hcz24_1 : w23.cell? ⟨gb191, 1, none⟩ = some (.int .i64 ((rd_T45 l2 x8_1).f0.f1)) := (blk_cell BK191.out 1).trans rfl; have hcz24_2 : w23.cell? ⟨gb191, 2, none⟩ = some (.int .i64 ((rd_T45 l2 x8_1).f1.f0)) := (blk_cell BK191.out 2).trans rfl; have hcz24_3 : w23.cell? ⟨gb191, 3, none⟩ = some (.int .i64 ((rd_T45 l2 x8_1).f1.f1)) := (blk_cell BK191.out 3).trans rfl; have hfz24_0 := qbF BK191.out 0; have hfz24_1 := qbF BK191.out 1; have hfz24_2 := qbF BK191.out 2; have hfz24_3 := qbF BK191.out 3) | ((with_reducible refine gate_callee (f := 255) rfl ?_); refine goesL_ (some 38) rfl rfl Tryz.func255 (by kernel_rfl) rfl #[.slice Ao22 x1_1.length co22, .agg #[.int .i64 ((rd_T45 l2 x8_1).f1.f0), .int .i64 ((rd_T45 l2 x8_1).f1.f1)], .int .i64 ji10] rfl (by (try simp only [lm0, lm1, lm2]); first | done | (simp only [hji10]; rfl) | rfl | (simp only [lm3, lm4]; rfl)) ?_; (with_reducible refine (naskhref04_same.calls k1 (fun k_ => some k_ = (.slice Ao22 x1_1.length co22 : Value).ownBlock) (.slice Ao22 x1_1.length co22) x1_1 ((rd_T45 l2 x8_1).f1.f0) ((rd_T45 l2 x8_1).f1.f1) ji10 _ t196 w0 _ ?side1 ?side2 A11.out).mono ?_); (case side1 => repeat (first | (with_reducible first | exact HB.out | apply qbA | apply qbN | apply qb1 | refine qbS ?_ GE191.out) | exact HB.out)); (case side2 => exact Kd.R_tight rfl HO_1.out); rintro e w25 ⟨rfl, hy0, hb, hkp⟩; refine ⟨_, rfl, ?_⟩; have n0_ := aMk (qrM (ok' := fun k_ => ((P0_ k_ ∨ P1_ k_) ∨ w.heap.size ≤ k_) ∧ some k_ ≠ (.slice Ao22 x1_1.length co22 : Value).ownBlock) (Kd.R_keptB (HO_0.out) hkp (fun k_ hk_ hs_ => (hk_.2) hs_)) (fun k_ hk_ => ⟨hk_.1.1, hk_.1.2⟩)); have n1_ := aMk (Kd.R_reok rfl hy0 (fun k_ e_ => HO_1.out.1 k_ e_)); have n2_ := aMk (blk_kept (by exact BK191.out) hkp (fun hs_ => (fun e_ => (Kd.R_ne HO_1.out BK191.out (by decide)) e_) hs_)); have n3_ := aMk (Kept.then_ (S := (fun k_ => P0_ k_ ∨ P1_ k_)) (by repeat (first | (with_reducible first | exact HK.out | apply Kept.alloc | apply Kept.drewN | apply Kept.drew | refine Kept.setCell ?_ (.inr GW191.out) _) | exact HK.out)) hkp (fun k_ hs_ => (fun e_ => (HO_1.out.1 k_ e_.symm).1) hs_)); have n4_ := aMk (hb); clear HO_0; clear HO_1; clear BK191; clear HK; clear HB; have HO_0 := n0_; have HO_1 := n1_; have BK191 := n2_; have HK := n3_; have HB := n4_; clear n0_ n1_ n2_ n3_ n4_; have hcz26_0 : w25.cell? ⟨gb191, 0, none⟩ = some (.int .i64 ((rd_T45 l2 x8_1).f0.f0)) := (blk_cell BK191.out 0).trans rfl; have hcz26_1 : w25.cell? ⟨gb191, 1, none⟩ = some (.int .i64 ((rd_T45 l2 x8_1).f0.f1)) := (blk_cell BK191.out 1).trans rfl; have hcz26_2 : w25.cell? ⟨gb191, 2, none⟩ = some (.int .i64 ((rd_T45 l2 x8_1).f1.f0)) := (blk_cell BK191.out 2).trans rfl; have hcz26_3 : w25.cell? ⟨gb191, 3, none⟩ = some (.int .i64 ((rd_T45 l2 x8_1).f1.f1)) := (blk_cell BK191.out 3).trans rfl; have hfz26_0 := qbF BK191.out 0; have hfz26_1 := qbF BK191.out 1; have hfz26_2 := qbF BK191.out 2; have hfz26_3 := qbF BK191.out 3) | ((with_reducible refine gate_callee (f := 255) rfl ?_); refine goesL_ (some 46) rfl rfl Tryz.func255 (by kernel_rfl) rfl #[.slice Ao17 x0_1.length co17, .agg #[.int .i64 ((rd_T45 l2 x8_1).f0.f0), .int .i64 ((rd_T45 l2 x8_1).f0.f1)], .int .i64 ji10] rfl (by (try simp only [lm0, lm1, lm2]); first | done | (simp only [hji10]; rfl) | rfl | (simp only [lm3, lm4]; rfl)) ?_; (with_reducible refine (naskhref04_same.calls k1 (fun k_ => some k_ = (.slice Ao17 x0_1.length co17 : Value).ownBlock) (.slice Ao17 x0_1.length co17) x0_1 ((rd_T45 l2 x8_1).f0.f0) ((rd_T45 l2 x8_1).f0.f1) ji10 _ t198 w0 _ ?side1 ?side2 A13.out).mono ?_); (case side1 => repeat (first | (with_reducible first | exact HB.out | apply qbA | apply qbN | apply qb1 | refine qbS ?_ GE191.out) | exact HB.out)); (case side2 => exact Kd.R_tight rfl HO_0.out); rintro e w27 ⟨rfl, hy0, hb, hkp⟩; refine ⟨_, rfl, ?_⟩; have n0_ := aMk (Kd.R_reok rfl hy0 (fun k_ e_ => HO_0.out.1 k_ e_)); have n1_ := aMk (qrM (ok' := fun k_ => ((P0_ k_ ∨ P1_ k_) ∨ w.heap.size ≤ k_) ∧ some k_ ≠ (.slice Ao17 x0_1.length co17 : Value).ownBlock) (Kd.R_keptB (HO_1.out) hkp (fun k_ hk_ hs_ => (hk_.2) hs_)) (fun k_ hk_ => ⟨hk_.1.1, hk_.1.2⟩)); have n2_ := aMk (blk_kept (by exact BK191.out) hkp (fun hs_ => (fun e_ => (Kd.R_ne HO_0.out BK191.out (by decide)) e_) hs_)); have n3_ := aMk (Kept.then_ (S := (fun k_ => P0_ k_ ∨ P1_ k_)) (by repeat (first | (with_reducible first | exact HK.out | apply Kept.alloc | apply Kept.drewN | apply Kept.drew | refine Kept.setCell ?_ (.inr GW191.out) _) | exact HK.out)) hkp (fun k_ hs_ => (fun e_ => (HO_0.out.1 k_ e_.symm).1) hs_)); have n4_ := aMk (hb); clear HO_0; clear HO_1; clear BK191; clear HK; clear HB; have HO_0 := n0_; have HO_1 := n1_; have BK191 := n2_; have HK := n3_; have HB := n4_; clear n0_ n1_ n2_ n3_ n4_; (try clear hy0)))
        go_roundg k1
        case measure => have := HK1.out; omega
        case rel => first | exact ⟨(t198), (t196), (true), (wrap64 (x8_1 + 1)), rfl, rfl, H', ⟨by have := HK1.out; omega⟩, ⟨by (with_reducible repeat (first | apply qrA | apply qrN | apply qrD)); exact HO_0.out⟩, ⟨by (with_reducible repeat (first | apply qrA | apply qrN | apply qrD)); exact HO_1.out⟩, ⟨by repeat (first | (with_reducible first | exact HK.out | apply Kept.alloc | apply Kept.drewN | apply Kept.drew | refine Kept.setCell ?_ (.inr GW191.out) _) | exact HK.out)⟩, ⟨by repeat (first | (with_reducible first | exact HB.out | apply qbA | apply qbN | apply qb1 | refine qbS ?_ GE191.out) | exact HB.out)⟩⟩ | exact ⟨(t198), (t196), (x7_1), (wrap64 (x8_1 + 1)), rfl, rfl, H', ⟨by have := HK1.out; omega⟩, ⟨by (with_reducible repeat (first | apply qrA | apply qrN | apply qrD)); exact HO_0.out⟩, ⟨by (with_reducible repeat (first | apply qrA | apply qrN | apply qrD)); exact HO_1.out⟩, ⟨by repeat (first | (with_reducible first | exact HK.out | apply Kept.alloc | apply Kept.drewN | apply Kept.drew | refine Kept.setCell ?_ (.inr GW191.out) _) | exact HK.out)⟩, ⟨by repeat (first | (with_reducible first | exact HB.out | apply qbA | apply qbN | apply qb1 | refine qbS ?_ GE191.out) | exact HB.out)⟩⟩
     ·replace c8 := qbE.mpr c8
      subst c8
      rw [if_neg (show ¬ (false = true) by decide)] at H
      replace H := qoB.mp H
      obtain ⟨⟨t201, t202⟩, A690, H⟩ := H
      try dsimp only at H
      have A69 := aMk A690; clear A690
      cases t201
      all_goals
       first | rw [if_pos rfl] at H | rw [if_neg (show ¬ (false = true) by decide)] at H
       have H' := aMk H
       clear H
       have p190 : 0 ≤ (x8_1 : Int) := qoD (by assumption)
       have q190 : x8_1 < (l2.length : Int) := qoD (by assumption)
       obtain ⟨ad190, e190, hx190_0, hx190_1, hx190_2, hx190_3⟩ := at_T45 (Kd.C_kept_now HR2.out HK.out) x8_1 p190 q190
       cases e190
       replace p190 := eq_true p190
       replace q190 := eq_true q190
       go_wp2_with (first | ((with_reducible refine gate_dst (N := 9) rfl ?_); refine box_event ?hg (N := 9) ?hd (cs := #[.int .i64 0, .int .i64 0, .int .i64 0, .int .i64 0]) (t := 36) ?hr ?_; (case hd => rfl); (case hg => rfl); (case hr => go_simp; done); intro gb191 hg w71 hbox hb; have n0_ := aMk (qrB (by (with_reducible repeat (first | apply qrA | apply qrN | apply qrD)); exact HO_0.out) hb); have n1_ := aMk (qrB (by (with_reducible repeat (first | apply qrA | apply qrN | apply qrD)); exact HO_1.out) hb); have n2_ := aMk (Kept.below (S := (fun k_ => P0_ k_ ∨ P1_ k_)) (by repeat (first | (with_reducible first | exact HK.out | apply Kept.alloc | apply Kept.drewN | apply Kept.drew) | exact HK.out)) hb); have n3_ := aMk (qbP (by repeat (first | (with_reducible first | exact HB.out | apply qbA | apply qbN | apply qb1) | exact HB.out)) hb); have n4_ := aMk (hbox); have n5_ := aMk ((by rw [hg]; exact (by first | exact HK.out.1 | exact (show Kept w _ (fun k_ => P0_ k_ ∨ P1_ k_) from by repeat (first | (with_reducible first | exact HK.out | apply Kept.alloc | apply Kept.drewN | apply Kept.drew) | exact HK.out)).1) : w.heap.size ≤ gb191)); have n6_ := aMk ((by rw [hg]; exact (qbZ (by repeat (first | (with_reducible first | exact HB.out | apply qbA | apply qbN | apply qb1) | exact HB.out))) : w0.heap.size ≤ gb191)); clear HO_0; clear HO_1; clear HK; clear HB; have HO_0 := n0_; have HO_1 := n1_; have HK := n2_; have HB := n3_; have BK191 := n4_; have GW191 := n5_; have GE191 := n6_; clear n0_ n1_ n2_ n3_ n4_ n5_ n6_; clear hb hbox hg; have hcz72_0 : w71.cell? ⟨gb191, 0, none⟩ = some (.int .i64 0) := (blk_cell BK191.out 0).trans rfl; have hcz72_1 : w71.cell? ⟨gb191, 1, none⟩ = some (.int .i64 0) := (blk_cell BK191.out 1).trans rfl; have hcz72_2 : w71.cell? ⟨gb191, 2, none⟩ = some (.int .i64 0) := (blk_cell BK191.out 2).trans rfl; have hcz72_3 : w71.cell? ⟨gb191, 3, none⟩ = some (.int .i64 0) := (blk_cell BK191.out 3).trans rfl; have hfz72_0 := qbF BK191.out 0; have hfz72_1 := qbF BK191.out 1; have hfz72_2 := qbF BK191.out 2; have hfz72_3 := qbF BK191.out 3; obtain ⟨Ao73, co73, eo73⟩ := Kd.R_slice HO_0.out; subst eo73) | ((with_reducible refine gate_callee (f := 254) rfl ?_); refine goesL_ (some 24) rfl rfl Tryz.func254 (by kernel_rfl) rfl #[.slice Ao73 x0_1.length co73, .agg #[.int .i64 ((rd_T45 l2 x8_1).f0.f0), .int .i64 ((rd_T45 l2 x8_1).f0.f1)]] rfl (by (try simp only [lm0, lm1, lm2]); first | done | rfl | (simp only [lm3, lm4]; rfl)) ?_; (with_reducible refine (naskhref04_least.calls k1 _ _ x0_1 ((rd_T45 l2 x8_1).f0.f0) ((rd_T45 l2 x8_1).f0.f1) t192 _ ?side1 ?side2 A6.out).mono ?_); (case side1 => refine (Kd.R_reads' (e := 3) (base := w0.heap.size) (ok := fun k_ => (((P0_ k_ ∨ P1_ k_) ∨ w.heap.size ≤ k_) ∧ some k_ ≠ (u9001_ : Value).ownBlock)) (n := x0_1.length) (c := co73) ?_).2.2; exact (by (with_reducible repeat (first | apply qrA | apply qrN | apply qrD)); exact (qrM (Kd.R_far (p := ⟨gb191, 3, none⟩) (Kd.R_far (p := ⟨gb191, 2, none⟩) (Kd.R_far (p := ⟨gb191, 1, none⟩) (Kd.R_far (p := ⟨gb191, 0, none⟩) (Kd.R_types HO_0.out BK191.out (by decide)) (fun _ hk => hk.2) (.int .i64 ((rd_T45 l2 x8_1).f0.f0))) (fun _ hk => hk.2) (.int .i64 ((rd_T45 l2 x8_1).f0.f1))) (fun _ hk => hk.2) (.int .i64 ((rd_T45 l2 x8_1).f1.f0))) (fun _ hk => hk.2) (.int .i64 ((rd_T45 l2 x8_1).f1.f1))) (fun _ h_ => h_.1)))); (case side2 => exact (Kd.R_reads' HO_0.out).2.1); rintro e w74 ⟨rfl, hb⟩; refine ⟨_, rfl, ?_⟩; have n0_ := aMk (qrB (by (with_reducible repeat (first | apply qrA | apply qrN | apply qrD)); exact (qrM (Kd.R_far (p := ⟨gb191, 3, none⟩) (Kd.R_far (p := ⟨gb191, 2, none⟩) (Kd.R_far (p := ⟨gb191, 1, none⟩) (Kd.R_far (p := ⟨gb191, 0, none⟩) (Kd.R_types HO_0.out BK191.out (by decide)) (fun _ hk => hk.2) (.int .i64 ((rd_T45 l2 x8_1).f0.f0))) (fun _ hk => hk.2) (.int .i64 ((rd_T45 l2 x8_1).f0.f1))) (fun _ hk => hk.2) (.int .i64 ((rd_T45 l2 x8_1).f1.f0))) (fun _ hk => hk.2) (.int .i64 ((rd_T45 l2 x8_1).f1.f1))) (fun _ h_ => h_.1))) hb); have n1_ := aMk (qrB (by (with_reducible repeat (first | apply qrA | apply qrN | apply qrD)); exact (qrM (Kd.R_far (p := ⟨gb191, 3, none⟩) (Kd.R_far (p := ⟨gb191, 2, none⟩) (Kd.R_far (p := ⟨gb191, 1, none⟩) (Kd.R_far (p := ⟨gb191, 0, none⟩) (Kd.R_types HO_1.out BK191.out (by decide)) (fun _ hk => hk.2) (.int .i64 ((rd_T45 l2 x8_1).f0.f0))) (fun _ hk => hk.2) (.int .i64 ((rd_T45 l2 x8_1).f0.f1))) (fun _ hk => hk.2) (.int .i64 ((rd_T45 l2 x8_1).f1.f0))) (fun _ hk => hk.2) (.int .i64 ((rd_T45 l2 x8_1).f1.f1))) (fun _ h_ => h_.1))) hb); have n2_ := aMk (blk_below (g := gb191) (o := .cells #[.int .i64 ((rd_T45 l2 x8_1).f0.f0), .int .i64 ((rd_T45 l2 x8_1).f0.f1), .int .i64 ((rd_T45 l2 x8_1).f1.f0), .int .i64 ((rd_T45 l2 x8_1).f1.f1)] 36 (0, 0)) (by refine blk_put (cs := #[.int .i64 ((rd_T45 l2 x8_1).f0.f0), .int .i64 ((rd_T45 l2 x8_1).f0.f1), .int .i64 ((rd_T45 l2 x8_1).f1.f0), .int .i64 0]) ?_ 3 _ rfl; refine blk_put (cs := #[.int .i64 ((rd_T45 l2 x8_1).f0.f0), .int .i64 ((rd_T45 l2 x8_1).f0.f1), .int .i64 0, .int .i64 0]) ?_ 2 _ rfl; refine blk_put (cs := #[.int .i64 ((rd_T45 l2 x8_1).f0.f0), .int .i64 0, .int .i64 0, .int .i64 0]) ?_ 1 _ rfl; refine blk_put (cs := #[.int .i64 0, .int .i64 0, .int .i64 0, .int .i64 0]) ?_ 0 _ rfl; exact BK191.out) hb); have n3_ := aMk (Kept.below (S := (fun k_ => P0_ k_ ∨ P1_ k_)) (by repeat (first | (with_reducible first | exact HK.out | apply Kept.alloc | apply Kept.drewN | apply Kept.drew | refine Kept.setCell ?_ (.inr GW191.out) _) | exact HK.out)) hb); have n4_ := aMk (qbP (by repeat (first | (with_reducible first | exact HB.out | apply qbA | apply qbN | apply qb1 | refine qbS ?_ GE191.out) | exact HB.out)) hb); clear HO_0; clear HO_1; clear BK191; clear HK; clear HB; have HO_0 := n0_; have HO_1 := n1_; have BK191 := n2_; have HK := n3_; have HB := n4_; clear n0_ n1_ n2_ n3_ n4_; have hcz75_0 : w74.cell? ⟨gb191, 0, none⟩ = some (.int .i64 ((rd_T45 l2 x8_1).f0.f0)) := (blk_cell BK191.out 0).trans rfl; have hcz75_1 : w74.cell? ⟨gb191, 1, none⟩ = some (.int .i64 ((rd_T45 l2 x8_1).f0.f1)) := (blk_cell BK191.out 1).trans rfl; have hcz75_2 : w74.cell? ⟨gb191, 2, none⟩ = some (.int .i64 ((rd_T45 l2 x8_1).f1.f0)) := (blk_cell BK191.out 2).trans rfl; have hcz75_3 : w74.cell? ⟨gb191, 3, none⟩ = some (.int .i64 ((rd_T45 l2 x8_1).f1.f1)) := (blk_cell BK191.out 3).trans rfl; have hfz75_0 := qbF BK191.out 0; have hfz75_1 := qbF BK191.out 1; have hfz75_2 := qbF BK191.out 2; have hfz75_3 := qbF BK191.out 3) | ((with_reducible refine gate_callee (f := 167) rfl ?_); refine goesL_ (some 27) rfl rfl Tryz.func167 (by kernel_rfl) rfl #[.agg #[.int .i64 ((rd_T45 l2 x8_1).f1.f0), .int .i64 ((rd_T45 l2 x8_1).f1.f1)]] rfl (by (try simp only [lm0, lm1, lm2]); first | done | rfl | (simp only [lm3, lm4]; rfl)) ?_; (with_reducible refine (naskhref03_Right.calls ((rd_T45 l2 x8_1).f1.f0) ((rd_T45 l2 x8_1).f1.f1) false _ A7.out).mono ?_); rintro e w76 ⟨rfl, hb⟩; refine ⟨_, rfl, ?_⟩; have n0_ := aMk (qrB (by (with_reducible repeat (first | apply qrA | apply qrN | apply qrD)); exact HO_0.out) hb); have n1_ := aMk (qrB (by (with_reducible repeat (first | apply qrA | apply qrN | apply qrD)); exact HO_1.out) hb); have n2_ := aMk (blk_below (g := gb191) (o := .cells #[.int .i64 ((rd_T45 l2 x8_1).f0.f0), .int .i64 ((rd_T45 l2 x8_1).f0.f1), .int .i64 ((rd_T45 l2 x8_1).f1.f0), .int .i64 ((rd_T45 l2 x8_1).f1.f1)] 36 (0, 0)) (by exact BK191.out) hb); have n3_ := aMk (Kept.below (S := (fun k_ => P0_ k_ ∨ P1_ k_)) (by repeat (first | (with_reducible first | exact HK.out | apply Kept.alloc | apply Kept.drewN | apply Kept.drew | refine Kept.setCell ?_ (.inr GW191.out) _) | exact HK.out)) hb); have n4_ := aMk (qbP (by repeat (first | (with_reducible first | exact HB.out | apply qbA | apply qbN | apply qb1 | refine qbS ?_ GE191.out) | exact HB.out)) hb); clear HO_0; clear HO_1; clear BK191; clear HK; clear HB; have HO_0 := n0_; have HO_1 := n1_; have BK191 := n2_; have HK := n3_; have HB := n4_; clear n0_ n1_ n2_ n3_ n4_; have hcz77_0 : w76.cell? ⟨gb191, 0, none⟩ = some (.int .i64 ((rd_T45 l2 x8_1).f0.f0)) := (blk_cell BK191.out 0).trans rfl; have hcz77_1 : w76.cell? ⟨gb191, 1, none⟩ = some (.int .i64 ((rd_T45 l2 x8_1).f0.f1)) := (blk_cell BK191.out 1).trans rfl; have hcz77_2 : w76.cell? ⟨gb191, 2, none⟩ = some (.int .i64 ((rd_T45 l2 x8_1).f1.f0)) := (blk_cell BK191.out 2).trans rfl; have hcz77_3 : w76.cell? ⟨gb191, 3, none⟩ = some (.int .i64 ((rd_T45 l2 x8_1).f1.f1)) := (blk_cell BK191.out 3).trans rfl; have hfz77_0 := qbF BK191.out 0; have hfz77_1 := qbF BK191.out 1; have hfz77_2 := qbF BK191.out 2; have hfz77_3 := qbF BK191.out 3) | ((with_reducible refine gate_callee (f := 255) rfl ?_); refine goesL_ (some 46) rfl rfl Tryz.func255 (by kernel_rfl) rfl #[.slice Ao73 x0_1.length co73, .agg #[.int .i64 ((rd_T45 l2 x8_1).f0.f0), .int .i64 ((rd_T45 l2 x8_1).f0.f1)], .int .i64 t192] rfl (by (try simp only [lm0, lm1, lm2]); first | done | rfl | (simp only [lm3, lm4]; rfl)) ?_; (with_reducible refine (naskhref04_same.calls k1 (fun k_ => some k_ = (.slice Ao73 x0_1.length co73 : Value).ownBlock) (.slice Ao73 x0_1.length co73) x0_1 ((rd_T45 l2 x8_1).f0.f0) ((rd_T45 l2 x8_1).f0.f1) t192 _ t202 w0 _ ?side1 ?side2 A69.out).mono ?_); (case side1 => repeat (first | (with_reducible first | exact HB.out | apply qbA | apply qbN | apply qb1 | refine qbS ?_ GE191.out) | exact HB.out)); (case side2 => exact Kd.R_tight rfl HO_0.out); rintro e w78 ⟨rfl, hy0, hb, hkp⟩; refine ⟨_, rfl, ?_⟩; have n0_ := aMk (Kd.R_reok rfl hy0 (fun k_ e_ => HO_0.out.1 k_ e_)); have n1_ := aMk (qrM (ok' := fun k_ => ((P0_ k_ ∨ P1_ k_) ∨ w.heap.size ≤ k_) ∧ some k_ ≠ (.slice Ao73 x0_1.length co73 : Value).ownBlock) (Kd.R_keptB (HO_1.out) hkp (fun k_ hk_ hs_ => (hk_.2) hs_)) (fun k_ hk_ => ⟨hk_.1.1, hk_.1.2⟩)); have n2_ := aMk (blk_kept (by exact BK191.out) hkp (fun hs_ => (fun e_ => (Kd.R_ne HO_0.out BK191.out (by decide)) e_) hs_)); have n3_ := aMk (Kept.then_ (S := (fun k_ => P0_ k_ ∨ P1_ k_)) (by repeat (first | (with_reducible first | exact HK.out | apply Kept.alloc | apply Kept.drewN | apply Kept.drew | refine Kept.setCell ?_ (.inr GW191.out) _) | exact HK.out)) hkp (fun k_ hs_ => (fun e_ => (HO_0.out.1 k_ e_.symm).1) hs_)); have n4_ := aMk (hb); clear HO_0; clear HO_1; clear BK191; clear HK; clear HB; have HO_0 := n0_; have HO_1 := n1_; have BK191 := n2_; have HK := n3_; have HB := n4_; clear n0_ n1_ n2_ n3_ n4_; (try clear hy0)))
       go_roundg k1
       case measure => have := HK1.out; omega
       case rel => first | exact ⟨(t202), (x1_1), (true), (wrap64 (x8_1 + 1)), rfl, rfl, H', ⟨by have := HK1.out; omega⟩, ⟨by (with_reducible repeat (first | apply qrA | apply qrN | apply qrD)); exact HO_0.out⟩, ⟨by (with_reducible repeat (first | apply qrA | apply qrN | apply qrD)); exact HO_1.out⟩, ⟨by repeat (first | (with_reducible first | exact HK.out | apply Kept.alloc | apply Kept.drewN | apply Kept.drew | refine Kept.setCell ?_ (.inr GW191.out) _) | exact HK.out)⟩, ⟨by repeat (first | (with_reducible first | exact HB.out | apply qbA | apply qbN | apply qb1 | refine qbS ?_ GE191.out) | exact HB.out)⟩⟩ | exact ⟨(t202), (x1_1), (x7_1), (wrap64 (x8_1 + 1)), rfl, rfl, H', ⟨by have := HK1.out; omega⟩, ⟨by (with_reducible repeat (first | apply qrA | apply qrN | apply qrD)); exact HO_0.out⟩, ⟨by (with_reducible repeat (first | apply qrA | apply qrN | apply qrD)); exact HO_1.out⟩, ⟨by repeat (first | (with_reducible first | exact HK.out | apply Kept.alloc | apply Kept.drewN | apply Kept.drew | refine Kept.setCell ?_ (.inr GW191.out) _) | exact HK.out)⟩, ⟨by repeat (first | (with_reducible first | exact HB.out | apply qbA | apply qbN | apply qb1 | refine qbS ?_ GE191.out) | exact HB.out)⟩⟩
    ·rw [if_neg c5] at H
     exact absurd H (by simp)
   ·rw [if_neg c4] at H
    have c4b0 := qdF c4
    clear c4
    replace H := qoB.mp H
    obtain ⟨⟨t184, t185⟩, A870, H⟩ := H
    try dsimp only at H
    have A87 := aMk A870; clear A870
    by_cases c88 : t184 = true
    ·subst c88
     rw [if_pos rfl] at H
     replace H := qoB.mp H
     obtain ⟨⟨t186, t187⟩, A890, H⟩ := H
     try dsimp only at H
     have A89 := aMk A890; clear A890
     cases t186
     all_goals
      first | rw [if_pos rfl] at H | rw [if_neg (show ¬ (false = true) by decide)] at H
      simp only [Option.some.injEq, Prod.mk.injEq] at H
      obtain ⟨rfl, rfl, rfl⟩ := H
      obtain ⟨Ao91, co91, eo91⟩ := Kd.R_slice HO_0.out
      subst eo91
      go_wp2_with (first | ((with_reducible refine gate_callee (f := 256) rfl ?_); refine goesL_ (some 51) rfl rfl Tryz.func256 (by kernel_rfl) rfl #[.slice Ao91 x0_1.length co91] rfl (by (try simp only [lm0, lm1, lm2]); first | done | rfl | (simp only [lm3, lm4]; rfl)) ?_; (with_reducible refine (naskhref04_whole.calls k1 (fun k_ => some k_ = (.slice Ao91 x0_1.length co91 : Value).ownBlock) (.slice Ao91 x0_1.length co91) x0_1 true t185 w0 _ ?side1 ?side2 A87.out).mono ?_); (case side1 => repeat (first | (with_reducible first | exact HB.out | apply qbA | apply qbN | apply qb1) | exact HB.out)); (case side2 => exact Kd.R_tight rfl HO_0.out); rintro e w92 ⟨rfl, hy0, hb, hkp⟩; refine ⟨_, rfl, ?_⟩; have n0_ := aMk (Kd.R_reok rfl hy0 (fun k_ e_ => HO_0.out.1 k_ e_)); have n1_ := aMk (qrM (ok' := fun k_ => ((P0_ k_ ∨ P1_ k_) ∨ w.heap.size ≤ k_) ∧ some k_ ≠ (.slice Ao91 x0_1.length co91 : Value).ownBlock) (Kd.R_keptB (HO_1.out) hkp (fun k_ hk_ hs_ => (hk_.2) hs_)) (fun k_ hk_ => ⟨hk_.1.1, hk_.1.2⟩)); have n2_ := aMk (Kept.then_ (S := (fun k_ => P0_ k_ ∨ P1_ k_)) (by repeat (first | (with_reducible first | exact HK.out | apply Kept.alloc | apply Kept.drewN | apply Kept.drew) | exact HK.out)) hkp (fun k_ hs_ => (fun e_ => (HO_0.out.1 k_ e_.symm).1) hs_)); have n3_ := aMk (hb); clear HO_0; clear HO_1; clear HK; clear HB; have HO_0 := n0_; have HO_1 := n1_; have HK := n2_; have HB := n3_; clear n0_ n1_ n2_ n3_; obtain ⟨Ao93, co93, eo93⟩ := Kd.R_slice HO_1.out; subst eo93) | ((with_reducible refine gate_callee (f := 256) rfl ?_); refine goesL_ (some 56) rfl rfl Tryz.func256 (by kernel_rfl) rfl #[.slice Ao93 x1_1.length co93] rfl (by (try simp only [lm0, lm1, lm2]); first | done | rfl | (simp only [lm3, lm4]; rfl)) ?_; (with_reducible refine (naskhref04_whole.calls k1 (fun k_ => some k_ = (.slice Ao93 x1_1.length co93 : Value).ownBlock) (.slice Ao93 x1_1.length co93) x1_1 _ t187 w0 _ ?side1 ?side2 A89.out).mono ?_); (case side1 => repeat (first | (with_reducible first | exact HB.out | apply qbA | apply qbN | apply qb1) | exact HB.out)); (case side2 => exact Kd.R_tight rfl HO_1.out); rintro e w94 ⟨rfl, hy0, hb, hkp⟩; refine ⟨_, rfl, ?_⟩; have n0_ := aMk (qrM (ok' := fun k_ => ((P0_ k_ ∨ P1_ k_) ∨ w.heap.size ≤ k_) ∧ some k_ ≠ (.slice Ao93 x1_1.length co93 : Value).ownBlock) (Kd.R_keptB (HO_0.out) hkp (fun k_ hk_ hs_ => (hk_.2) hs_)) (fun k_ hk_ => ⟨hk_.1.1, hk_.1.2⟩)); have n1_ := aMk (Kd.R_reok rfl hy0 (fun k_ e_ => HO_1.out.1 k_ e_)); have n2_ := aMk (Kept.then_ (S := (fun k_ => P0_ k_ ∨ P1_ k_)) (by repeat (first | (with_reducible first | exact HK.out | apply Kept.alloc | apply Kept.drewN | apply Kept.drew) | exact HK.out)) hkp (fun k_ hs_ => (fun e_ => (HO_1.out.1 k_ e_.symm).1) hs_)); have n3_ := aMk (hb); clear HO_0; clear HO_1; clear HK; clear HB; have HO_0 := n0_; have HO_1 := n1_; have HK := n2_; have HB := n3_; clear n0_ n1_ n2_ n3_; (try clear hy0)))
      go_ret
      exact ⟨rfl, by (with_reducible repeat (first | apply qrA | apply qrN | apply qrD)); exact qrM HO_0.out (fun _ hk => hk.1), by (with_reducible repeat (first | apply qrA | apply qrN | apply qrD)); exact qrM HO_1.out (fun _ hk => hk.1), by repeat (first | (with_reducible first | exact HB.out | apply qbA | apply qbN | apply qb1) | exact HB.out), by repeat (first | (with_reducible first | exact HK.out | apply Kept.alloc | apply Kept.drewN | apply Kept.drew) | exact HK.out)⟩
    ·replace c88 := qbE.mpr c88
     subst c88
     rw [if_neg (show ¬ (false = true) by decide)] at H
     replace H := qoB.mp H
     obtain ⟨⟨t188, t189⟩, A990, H⟩ := H
     try dsimp only at H
     have A99 := aMk A990; clear A990
     by_cases c100 : t188 = true
     ·subst c100
      rw [if_pos rfl] at H
      simp only [Option.some.injEq, Prod.mk.injEq] at H
      obtain ⟨rfl, rfl, rfl⟩ := H
      obtain ⟨Ao101, co101, eo101⟩ := Kd.R_slice HO_0.out
      subst eo101
      go_wp2_with (first | ((with_reducible refine gate_callee (f := 256) rfl ?_); refine goesL_ (some 51) rfl rfl Tryz.func256 (by kernel_rfl) rfl #[.slice Ao101 x0_1.length co101] rfl (by (try simp only [lm0, lm1, lm2]); first | done | rfl | (simp only [lm3, lm4]; rfl)) ?_; (with_reducible refine (naskhref04_whole.calls k1 (fun k_ => some k_ = (.slice Ao101 x0_1.length co101 : Value).ownBlock) (.slice Ao101 x0_1.length co101) x0_1 false t185 w0 _ ?side1 ?side2 A87.out).mono ?_); (case side1 => repeat (first | (with_reducible first | exact HB.out | apply qbA | apply qbN | apply qb1) | exact HB.out)); (case side2 => exact Kd.R_tight rfl HO_0.out); rintro e w102 ⟨rfl, hy0, hb, hkp⟩; refine ⟨_, rfl, ?_⟩; have n0_ := aMk (Kd.R_reok rfl hy0 (fun k_ e_ => HO_0.out.1 k_ e_)); have n1_ := aMk (qrM (ok' := fun k_ => ((P0_ k_ ∨ P1_ k_) ∨ w.heap.size ≤ k_) ∧ some k_ ≠ (.slice Ao101 x0_1.length co101 : Value).ownBlock) (Kd.R_keptB (HO_1.out) hkp (fun k_ hk_ hs_ => (hk_.2) hs_)) (fun k_ hk_ => ⟨hk_.1.1, hk_.1.2⟩)); have n2_ := aMk (Kept.then_ (S := (fun k_ => P0_ k_ ∨ P1_ k_)) (by repeat (first | (with_reducible first | exact HK.out | apply Kept.alloc | apply Kept.drewN | apply Kept.drew) | exact HK.out)) hkp (fun k_ hs_ => (fun e_ => (HO_0.out.1 k_ e_.symm).1) hs_)); have n3_ := aMk (hb); clear HO_0; clear HO_1; clear HK; clear HB; have HO_0 := n0_; have HO_1 := n1_; have HK := n2_; have HB := n3_; clear n0_ n1_ n2_ n3_; obtain ⟨Ao103, co103, eo103⟩ := Kd.R_slice HO_1.out; subst eo103) | ((with_reducible refine gate_callee (f := 256) rfl ?_); refine goesL_ (some 56) rfl rfl Tryz.func256 (by kernel_rfl) rfl #[.slice Ao103 x1_1.length co103] rfl (by (try simp only [lm0, lm1, lm2]); first | done | rfl | (simp only [lm3, lm4]; rfl)) ?_; (with_reducible refine (naskhref04_whole.calls k1 (fun k_ => some k_ = (.slice Ao103 x1_1.length co103 : Value).ownBlock) (.slice Ao103 x1_1.length co103) x1_1 true t189 w0 _ ?side1 ?side2 A99.out).mono ?_); (case side1 => repeat (first | (with_reducible first | exact HB.out | apply qbA | apply qbN | apply qb1) | exact HB.out)); (case side2 => exact Kd.R_tight rfl HO_1.out); rintro e w104 ⟨rfl, hy0, hb, hkp⟩; refine ⟨_, rfl, ?_⟩; have n0_ := aMk (qrM (ok' := fun k_ => ((P0_ k_ ∨ P1_ k_) ∨ w.heap.size ≤ k_) ∧ some k_ ≠ (.slice Ao103 x1_1.length co103 : Value).ownBlock) (Kd.R_keptB (HO_0.out) hkp (fun k_ hk_ hs_ => (hk_.2) hs_)) (fun k_ hk_ => ⟨hk_.1.1, hk_.1.2⟩)); have n1_ := aMk (Kd.R_reok rfl hy0 (fun k_ e_ => HO_1.out.1 k_ e_)); have n2_ := aMk (Kept.then_ (S := (fun k_ => P0_ k_ ∨ P1_ k_)) (by repeat (first | (with_reducible first | exact HK.out | apply Kept.alloc | apply Kept.drewN | apply Kept.drew) | exact HK.out)) hkp (fun k_ hs_ => (fun e_ => (HO_1.out.1 k_ e_.symm).1) hs_)); have n3_ := aMk (hb); clear HO_0; clear HO_1; clear HK; clear HB; have HO_0 := n0_; have HO_1 := n1_; have HK := n2_; have HB := n3_; clear n0_ n1_ n2_ n3_; (try clear hy0)))
      go_ret
      exact ⟨rfl, by (with_reducible repeat (first | apply qrA | apply qrN | apply qrD)); exact qrM HO_0.out (fun _ hk => hk.1), by (with_reducible repeat (first | apply qrA | apply qrN | apply qrD)); exact qrM HO_1.out (fun _ hk => hk.1), by repeat (first | (with_reducible first | exact HB.out | apply qbA | apply qbN | apply qb1) | exact HB.out), by repeat (first | (with_reducible first | exact HK.out | apply Kept.alloc | apply Kept.drewN | apply Kept.drew) | exact HK.out)⟩
     ·replace c100 := qbE.mpr c100
      subst c100
      rw [if_neg (show ¬ (false = true) by decide)] at H
      simp only [Option.some.injEq, Prod.mk.injEq] at H
      obtain ⟨rfl, rfl, rfl⟩ := H
      obtain ⟨Ao105, co105, eo105⟩ := Kd.R_slice HO_0.out
      subst eo105
      go_wp2_with (first | ((with_reducible refine gate_callee (f := 256) rfl ?_); refine goesL_ (some 51) rfl rfl Tryz.func256 (by kernel_rfl) rfl #[.slice Ao105 x0_1.length co105] rfl (by (try simp only [lm0, lm1, lm2]); first | done | rfl | (simp only [lm3, lm4]; rfl)) ?_; (with_reducible refine (naskhref04_whole.calls k1 (fun k_ => some k_ = (.slice Ao105 x0_1.length co105 : Value).ownBlock) (.slice Ao105 x0_1.length co105) x0_1 false t185 w0 _ ?side1 ?side2 A87.out).mono ?_); (case side1 => repeat (first | (with_reducible first | exact HB.out | apply qbA | apply qbN | apply qb1) | exact HB.out)); (case side2 => exact Kd.R_tight rfl HO_0.out); rintro e w106 ⟨rfl, hy0, hb, hkp⟩; refine ⟨_, rfl, ?_⟩; have n0_ := aMk (Kd.R_reok rfl hy0 (fun k_ e_ => HO_0.out.1 k_ e_)); have n1_ := aMk (qrM (ok' := fun k_ => ((P0_ k_ ∨ P1_ k_) ∨ w.heap.size ≤ k_) ∧ some k_ ≠ (.slice Ao105 x0_1.length co105 : Value).ownBlock) (Kd.R_keptB (HO_1.out) hkp (fun k_ hk_ hs_ => (hk_.2) hs_)) (fun k_ hk_ => ⟨hk_.1.1, hk_.1.2⟩)); have n2_ := aMk (Kept.then_ (S := (fun k_ => P0_ k_ ∨ P1_ k_)) (by repeat (first | (with_reducible first | exact HK.out | apply Kept.alloc | apply Kept.drewN | apply Kept.drew) | exact HK.out)) hkp (fun k_ hs_ => (fun e_ => (HO_0.out.1 k_ e_.symm).1) hs_)); have n3_ := aMk (hb); clear HO_0; clear HO_1; clear HK; clear HB; have HO_0 := n0_; have HO_1 := n1_; have HK := n2_; have HB := n3_; clear n0_ n1_ n2_ n3_; obtain ⟨Ao107, co107, eo107⟩ := Kd.R_slice HO_1.out; subst eo107) | ((with_reducible refine gate_callee (f := 256) rfl ?_); refine goesL_ (some 56) rfl rfl Tryz.func256 (by kernel_rfl) rfl #[.slice Ao107 x1_1.length co107] rfl (by (try simp only [lm0, lm1, lm2]); first | done | rfl | (simp only [lm3, lm4]; rfl)) ?_; (with_reducible refine (naskhref04_whole.calls k1 (fun k_ => some k_ = (.slice Ao107 x1_1.length co107 : Value).ownBlock) (.slice Ao107 x1_1.length co107) x1_1 false t189 w0 _ ?side1 ?side2 A99.out).mono ?_); (case side1 => repeat (first | (with_reducible first | exact HB.out | apply qbA | apply qbN | apply qb1) | exact HB.out)); (case side2 => exact Kd.R_tight rfl HO_1.out); rintro e w108 ⟨rfl, hy0, hb, hkp⟩; refine ⟨_, rfl, ?_⟩; have n0_ := aMk (qrM (ok' := fun k_ => ((P0_ k_ ∨ P1_ k_) ∨ w.heap.size ≤ k_) ∧ some k_ ≠ (.slice Ao107 x1_1.length co107 : Value).ownBlock) (Kd.R_keptB (HO_0.out) hkp (fun k_ hk_ hs_ => (hk_.2) hs_)) (fun k_ hk_ => ⟨hk_.1.1, hk_.1.2⟩)); have n1_ := aMk (Kd.R_reok rfl hy0 (fun k_ e_ => HO_1.out.1 k_ e_)); have n2_ := aMk (Kept.then_ (S := (fun k_ => P0_ k_ ∨ P1_ k_)) (by repeat (first | (with_reducible first | exact HK.out | apply Kept.alloc | apply Kept.drewN | apply Kept.drew) | exact HK.out)) hkp (fun k_ hs_ => (fun e_ => (HO_1.out.1 k_ e_.symm).1) hs_)); have n3_ := aMk (hb); clear HO_0; clear HO_1; clear HK; clear HB; have HO_0 := n0_; have HO_1 := n1_; have HK := n2_; have HB := n3_; clear n0_ n1_ n2_ n3_; (try clear hy0)))
      go_ret
      exact ⟨rfl, by (with_reducible repeat (first | apply qrA | apply qrN | apply qrD)); exact qrM HO_0.out (fun _ hk => hk.1), by (with_reducible repeat (first | apply qrA | apply qrN | apply qrD)); exact qrM HO_1.out (fun _ hk => hk.1), by repeat (first | (with_reducible first | exact HB.out | apply qbA | apply qbN | apply qb1) | exact HB.out), by repeat (first | (with_reducible first | exact HK.out | apply Kept.alloc | apply Kept.drewN | apply Kept.drew) | exact HK.out)⟩
end PClusterFinest
end Go.Proofs.YtemhccjjcioodaaGreat
