/- Texts of this claim, cut to what it needs. -/
import Derived.Test.YtemhccjjcioodaaGreatKKPlaces
import Derived.Test.YtemhccjjcioodaaGreatKUGroups
set_option linter.unusedSimpArgs false
set_option linter.unusedVariables false
section
namespace Go.Proofs.YtemhccjjcioodaaGreat.PClusterFinest
open Go.Proofs.YtemhccjjcioodaaGreat.CFin (info33)
open Go.RowKit Go.Proofs.YtemhccjjcioodaaGreatW.PrintWords Go.Proofs.YtemhccjjcioodaaGreatW.PrintLast Go.Proofs.YtemhccjjcioodaaGreatW.PrintMore
attribute [local go_sem] max2_int min2_int max_two min_two max_three min_three max_four min_four   -- for this text's walks alone
mutual
def span_Groups.l0 : Nat → Int → List Int → List (S33) → Int → Int → Option ((List (S33)))
 | 0, _, _, _, _, _ => none
 | k + 1, x0, x5, x16, x17, x18 => if x18 < x17 then (if 0 ≤ x18 then (if x18 < (x16.length : Int) then ((span_Right.f ((rd_T33 x16 x18).f0) ((rd_T33 x16 x18).f1)).bind fun t139 => (if t139 = true then (if ((rd_T33 x16 x18).f1) ≤ x0 then (if 0 ≤ ((rd_T33 x16 x18).f0) then (if ((rd_T33 x16 x18).f0) < (x5.length : Int) then (span_Groups.l0 k x0 (x5.set (((rd_T33 x16 x18).f0) : Int).toNat (mx (rd x5 ((rd_T33 x16 x18).f0)) ((rd_T33 x16 x18).f1))) x16 x17 (wrap64 (x18 + 1))) else (none)) else (none)) else (span_Groups.l0 k x0 x5 x16 x17 (wrap64 (x18 + 1)))) else (span_Groups.l0 k x0 x5 x16 x17 (wrap64 (x18 + 1))))) else (none)) else (none)) else (span_Groups.l1 k ([] : List (S33)) x5 (x5.length : Int) 0 0 1)
def span_Groups.l1 : Nat → List (S33) → List Int → Int → Int → Int → Int → Option ((List (S33)))
 | 0, _, _, _, _, _, _ => none
 | k + 1, x8, x44, x45, x46, x143000, x143001 => if x46 < x45 then (if 0 ≤ x46 then (if x46 < (x44.length : Int) then (if x46 = x143001 then (if x8.length < 8796093022208 then (span_Groups.l1 k (x8 ++ [(⟨x143000, x143001⟩ : S33)]) x44 x45 (wrap64 (x46 + 1)) x46 (mx (wrap64 (x46 + 1)) (rd x44 x46))) else (none)) else (span_Groups.l1 k x8 x44 x45 (wrap64 (x46 + 1)) x143000 (mx x143001 (rd x44 x46)))) else (none)) else (none)) else (if x8.length < 8796093022208 then (some (x8 ++ [(⟨x143000, x143001⟩ : S33)])) else (none))
end
def span_Groups.f (k : Nat) (a0 : Int) (l1 : List (S33)) : Option ((List (S33))) := if a0 < 1 then (some ([] : List (S33))) else (if 0 ≤ a0 then (if (a0 : Int).toNat ≤ 35184372088832 then (span_Groups.l0 k a0 (List.replicate (a0 : Int).toNat 0) l1 (l1.length : Int) 0) else (none)) else (none))
def span_Groups.T8 : Bool × List (List Nat × List Nat) := (true, [([], []), ([], []), ([1], [1]), ([], []), ([], []), ([4], [4]), ([3, 5], [3, 5]), ([6], [6]), ([], []), ([8], [8]), ([7, 9], [7, 9]), ([0, 2, 0, 1, 2, 3, 4, 5, 6, 7, 8, 9, 10], [0, 2]), ([11, 10, 0, 1, 2, 3, 4, 5, 6, 7, 8, 9, 10], [10, 11])])
def span_Groups.B8 : List Nat := [0, 0, 2, 0, 0, 16, 56, 120, 0, 256, 1016, 2047, 4095]
theorem span_Groups.tab8 : rtab .any (opsOf Tryz.f118 8) = span_Groups.T8 := by kernel_rfl
theorem span_Groups.bits8 : waitsOk span_Groups.T8.2 span_Groups.B8 = true := by kernel_rfl
set_option maxHeartbeats 8000000 in
set_option maxRecDepth 100000 in
theorem span_Groups.calls (k : Nat) (a0 : Int) (A1 : Option Addr) (c1 : Nat) (l1 : List (S33)) (r : List (S33)) (w : World) (hr1 : Kd.C k33 w A1 l1.length l1) (hc1 : l1.length ≤ c1) (h : span_Groups.f k a0 l1 = some r) :
 Calls Tryz.prog 118 #[.int .i64 a0, .slice A1 l1.length c1] w fun e w' => ∃ v0_ : Value, e = .returned (v0_) ∧ Kd.R k33 34 w' w.heap.size (fun _ => True) v0_ r ∧ Below w.heap.size w w' := by
 have hu33 := Tryz.underlying34
 have HR1 := Aside0.mk hr1
 have HC1 := Aside0.mk hc1
 clear hr1 hc1
 have HB := Aside0.mk (Below.refl w.heap.size w)
 have H : (if a0 < 1 then (some ([] : List (S33))) else (if 0 ≤ a0 then (if (a0 : Int).toNat ≤ 35184372088832 then (span_Groups.l0 k a0 (List.replicate (a0 : Int).toNat 0) l1 (l1.length : Int) 0) else (none)) else (none))) = some r := h
 clear h
 by_cases c3 : a0 < 1
 ·rw [if_pos c3] at H
  have c3b0 : decide (a0 < 1) = true := decide_eq_true c3
  clear c3
  obtain rfl := Option.some.inj H
  go_enter Tryz.func118, Tryz.ntmps118
  go_wp2
  go_ret
  exact ⟨_, by first | rfl | (simp [errW_none, errW_some] <;> rfl) | (simp [*, errW_none, errW_some] <;> rfl), by first | exact Kd.R_nil _ _ _ _ _ | exact Kd.N_nil _ _ _ _ _ | exact Kd.V_nil _ _ _ _ _ | exact Kd.Q_nil _ _ _ _ _ | exact Kd.S_nil _ _ _ _ _, by repeat (first | (with_reducible first | exact HB.out | apply below_alloc | apply pw_below_drewN | apply below_drew1) | exact HB.out)⟩
 ·rw [if_neg c3] at H
  have c3b0 : decide (a0 < 1) = false := decide_eq_false c3
  clear c3
  by_cases c4 : 0 ≤ a0
  ·rw [if_pos c4] at H
   have c4b0 := eq_true c4
   have c4b1 : decide (0 ≤ a0) = true := decide_eq_true c4
   clear c4
   by_cases c5 : (a0 : Int).toNat ≤ 35184372088832
   ·rw [if_pos c5] at H
    have c5b0 := eq_true c5
    have c5b1 : decide ((a0 : Int).toNat ≤ 35184372088832) = true := decide_eq_true c5
    clear c5
    obtain ⟨y134, hy134⟩ : ∃ y_ : List Int, y_ = (List.replicate (a0 : Int).toNat 0) := ⟨_, rfl⟩
    replace H : (span_Groups.l0 k a0 y134 l1 (l1.length : Int) 0) = some r := by first | (rw [hy134]; with_reducible exact H) | (have H2_ := (Option.bind_some _ _).symm.trans H; rw [hy134]; with_reducible exact H2_) | (have H2_ := (Option.bind_some _ _).symm.trans H; with_reducible exact H2_) | with_reducible exact H | (rw [hy134]; exact H) | exact H
    have Ny134 := Aside0.mk hy134; clear hy134
    have H' := Aside0.mk H
    clear H
    go_enter Tryz.func118, Tryz.ntmps118
    go_wp2_with (first | ((with_reducible refine gate_dst (N := 15) rfl ?_); refine Kd.R_make (Kd.int .i64) _ 3 rfl (N := 15) rfl 22 _ _ rfl a0 rfl rfl Tryz.underlying22 (.int .i64 0) 8 info3 rfl (by decide) (by omega) 0 (ok := fun _ => True) (okp := fun _ => True) rfl (fun _ hk => hk) trivial (of_decide_eq_true (by first | (with_reducible assumption) | assumption)) (Nat.le_trans (Nat.mul_le_mul_right _ (of_decide_eq_true (by first | (with_reducible assumption) | assumption) : a0.toNat ≤ 35184372088832)) (by omega)) (Below.refl _ _) (Nat.le_refl _) ?_; intro v135 w6 ho7 hb hg_ hnew_; clear hg_ hnew_; (first | rw [← Ny134.out] at ho7 | (simp only [Int.reduceToNat] at ho7; rw [← Ny134.out] at ho7)); have n0_ := Aside0.mk (Kd.R_lower ho7 (below_size (by repeat (first | (with_reducible first | exact HB.out | apply below_alloc | apply pw_below_drewN | apply below_drew1) | exact HB.out)))); have n1_ := Aside0.mk (below_step (by repeat (first | (with_reducible first | exact HB.out | apply below_alloc | apply pw_below_drewN | apply below_drew1) | exact HB.out)) hb); clear HB; have HO136 := n0_; have HB := n1_; clear n0_ n1_; clear hb ho7))
    go_loopg [18] k (fun kq v18 w' => ∃ (x5_1 : List Int) (x18_1 : Int), v18 = .int .i64 x18_1 ∧ Aside0 (span_Groups.l0 kq a0 x5_1 l1 (l1.length : Int) x18_1 = some r) ∧ Aside0 (kq ≤ k) ∧ Aside0 (Kd.R (Kd.int .i64) 3 w' w.heap.size (fun _ => True) v135 x5_1) ∧ Aside0 (Below w.heap.size w w'))
    case atStart => exact ⟨(y134), (0), (by first | rfl | (simp; done) | (simp [*]; done)), H', ⟨Nat.le_refl _⟩, ⟨by (with_reducible repeat (first | apply Kd.R_alloc | apply Kd.R_drewN | apply Kd.R_drew)); exact HO136.out⟩, ⟨by repeat (first | (with_reducible first | exact HB.out | apply below_alloc | apply pw_below_drewN | apply below_drew1) | exact HB.out)⟩⟩
    case round =>
     clear H'
     try clear c1
     try clear p2
     try clear c3
     try clear c3b0
     try clear c4
     try clear c4b0
     try clear c4b1
     try clear c5
     try clear c5b0
     try clear c5b1
     obtain ⟨x5_1, x18_1, rfl, HA, HK1, HO_5, HB⟩ := hrel
     cases gk with
     | zero => exact absurd HA.out (by simp [span_Groups.l0])
     | succ k1 =>
      have H := HA.out
      clear HA
      simp only [span_Groups.l0] at H
      by_cases c8 : x18_1 < (l1.length : Int)
      ·rw [if_pos c8] at H
       have c8b0 : decide (x18_1 < (l1.length : Int)) = true := decide_eq_true c8
       clear c8
       by_cases c9 : 0 ≤ x18_1
       ·rw [if_pos c9] at H
        have c9b0 : decide (0 ≤ x18_1) = true := decide_eq_true c9
        clear c9
        by_cases c10 : x18_1 < (l1.length : Int)
        ·rw [if_pos c10] at H
         have c10b0 : decide (x18_1 < (l1.length : Int)) = true := decide_eq_true c10
         clear c10
         replace H := Option.bind_eq_some_iff.mp H
         obtain ⟨t139, A110, H⟩ := H
         try dsimp only at H
         have A11 := Aside0.mk A110; clear A110
         by_cases c12 : t139 = true
         ·subst c12
          rw [if_pos rfl] at H
          by_cases c13 : ((rd_T33 l1 x18_1).f1) ≤ a0
          ·rw [if_pos c13] at H
           have c13b0 : decide (((rd_T33 l1 x18_1).f1) ≤ a0) = true := decide_eq_true c13
           clear c13
           by_cases c14 : 0 ≤ ((rd_T33 l1 x18_1).f0)
           ·rw [if_pos c14] at H
            have c14b0 : decide (0 ≤ ((rd_T33 l1 x18_1).f0)) = true := decide_eq_true c14
            clear c14
            by_cases c15 : ((rd_T33 l1 x18_1).f0) < (x5_1.length : Int)
            ·rw [if_pos c15] at H
             have c15b0 : decide (((rd_T33 l1 x18_1).f0) < (x5_1.length : Int)) = true := decide_eq_true c15
             clear c15
             obtain ⟨ji16, hji16⟩ : ∃ j_ : Int, (mx (rd x5_1 ((rd_T33 l1 x18_1).f0)) ((rd_T33 l1 x18_1).f1)) = j_ := ⟨_, rfl⟩
             replace H : (span_Groups.l0 k1 a0 (x5_1.set (((rd_T33 l1 x18_1).f0) : Int).toNat (ji16)) l1 (l1.length : Int) (wrap64 (x18_1 + 1))) = some r := by first | (rw [hji16] at H; exact H) | (simp only [hji16] at H ⊢; exact H)
             (try rw [hji16] at A11)
             have hji16_ : (if (rd x5_1 ((rd_T33 l1 x18_1).f0)) < ((rd_T33 l1 x18_1).f1) then ((rd_T33 l1 x18_1).f1) else (rd x5_1 ((rd_T33 l1 x18_1).f0))) = ji16 := hji16
             obtain ⟨y141, hy141⟩ : ∃ y_ : List Int, y_ = (x5_1.set (((rd_T33 l1 x18_1).f0) : Int).toNat (ji16)) := ⟨_, rfl⟩
             replace H : (span_Groups.l0 k1 a0 y141 l1 (l1.length : Int) (wrap64 (x18_1 + 1))) = some r := by first | (rw [hy141]; with_reducible exact H) | (have H2_ := (Option.bind_some _ _).symm.trans H; rw [hy141]; with_reducible exact H2_) | (have H2_ := (Option.bind_some _ _).symm.trans H; with_reducible exact H2_) | with_reducible exact H | (rw [hy141]; exact H) | exact H
             have Ny141 := Aside0.mk hy141; clear hy141
             have H' := Aside0.mk H
             clear H
             have p137 : 0 ≤ (x18_1 : Int) := of_decide_eq_true (by first | (with_reducible assumption) | assumption)
             have q137 : x18_1 < (l1.length : Int) := of_decide_eq_true (by first | (with_reducible assumption) | assumption)
             obtain ⟨ad137, e137, hx137_0, hx137_1⟩ := at_T33 HR1.out x18_1 p137 q137
             cases e137
             replace hx137_0 := (HB.out.cell (World.block_lt_of_cell? w _ hx137_0)).trans hx137_0
             replace hx137_1 := (HB.out.cell (World.block_lt_of_cell? w _ hx137_1)).trans hx137_1
             replace p137 := eq_true p137
             replace q137 := eq_true q137
             try go_wp2_with (first | ((with_reducible refine gate_dst (N := 7) rfl ?_); refine box_event ?hg (N := 7) ?hd (cs := #[.int .i64 0, .int .i64 0]) (t := 34) ?hr ?_; (case hd => rfl); (case hg => rfl); (case hr => first | (go_simp; done) | (go_simp; rfl)); intro gb138 hg w18 hbox hb; have n0_ := Aside0.mk (Kd.R_below (by (with_reducible repeat (first | apply Kd.R_alloc | apply Kd.R_drewN | apply Kd.R_drew)); exact HO_5.out) hb); have n1_ := Aside0.mk (below_step (by repeat (first | (with_reducible first | exact HB.out | apply below_alloc | apply pw_below_drewN | apply below_drew1) | exact HB.out)) hb); have n2_ := Aside0.mk (hbox); have n3_ := Aside0.mk ((by rw [hg]; exact (below_size (by repeat (first | (with_reducible first | exact HB.out | apply below_alloc | apply pw_below_drewN | apply below_drew1) | exact HB.out))) : w.heap.size ≤ gb138)); have n4_ := Aside0.mk ((by rw [hg]; exact (below_size (by repeat (first | (with_reducible first | exact HB.out | apply below_alloc | apply pw_below_drewN | apply below_drew1) | exact HB.out))) : w.heap.size ≤ gb138)); clear HO_5; clear HB; have HO_5 := n0_; have HB := n1_; have BK138 := n2_; have GW138 := n3_; have GE138 := n4_; clear n0_ n1_ n2_ n3_ n4_; clear hb hbox hg; have hcz19_0 : w18.cell? ⟨gb138, 0, none⟩ = some (.int .i64 0) := (blk_cell BK138.out 0).trans rfl; have hcz19_1 : w18.cell? ⟨gb138, 1, none⟩ = some (.int .i64 0) := (blk_cell BK138.out 1).trans rfl; have hfz19_0 := blk_frozen BK138.out 0; have hfz19_1 := blk_frozen BK138.out 1) | ((with_reducible refine gate_callee (f := 119) rfl ?_); refine goesL_ (some 23) rfl rfl Tryz.func119 (by kernel_rfl) rfl #[.agg #[.int .i64 ((rd_T33 l1 x18_1).f0), .int .i64 ((rd_T33 l1 x18_1).f1)]] rfl (by (try simp only [List.map_toArray, List.map_cons, List.map_nil]); first | done | rfl | (simp only [List.length_drop, List.length_take]; rfl)) ?_; (with_reducible refine (span_Right.calls ((rd_T33 l1 x18_1).f0) ((rd_T33 l1 x18_1).f1) true _ A11.out).mono ?_); rintro e w20 ⟨rfl, hb⟩; refine ⟨_, rfl, ?_⟩; have n0_ := Aside0.mk (Kd.R_below (by (with_reducible repeat (first | apply Kd.R_alloc | apply Kd.R_drewN | apply Kd.R_drew)); exact (Kd.R_mono (Kd.R_far (p := ⟨gb138, 1, none⟩) (Kd.R_far (p := ⟨gb138, 0, none⟩) (Kd.R_types HO_5.out BK138.out (by decide)) (fun _ hk => hk.2) (.int .i64 ((rd_T33 l1 x18_1).f0))) (fun _ hk => hk.2) (.int .i64 ((rd_T33 l1 x18_1).f1))) (fun _ h_ => h_.1))) hb); have n1_ := Aside0.mk (blk_below (g := gb138) (o := .cells #[.int .i64 ((rd_T33 l1 x18_1).f0), .int .i64 ((rd_T33 l1 x18_1).f1)] 34 (0, 0)) (by (with_reducible repeat (first | refine blk_drewN ?_ _ | refine blk_drew ?_ | refine blk_alloc ?_ _)); refine blk_put (cs := #[.int .i64 ((rd_T33 l1 x18_1).f0), .int .i64 0]) ?_ 1 _ rfl; (with_reducible repeat (first | refine blk_drewN ?_ _ | refine blk_drew ?_ | refine blk_alloc ?_ _)); refine blk_put (cs := #[.int .i64 0, .int .i64 0]) ?_ 0 _ rfl; (with_reducible repeat (first | refine blk_drewN ?_ _ | refine blk_drew ?_ | refine blk_alloc ?_ _)); exact BK138.out) hb); have n2_ := Aside0.mk (below_step (by repeat (first | (with_reducible first | exact HB.out | apply below_alloc | apply pw_below_drewN | apply below_drew1 | refine below_set ?_ GE138.out) | exact HB.out)) hb); clear HO_5; clear BK138; clear HB; have HO_5 := n0_; have BK138 := n1_; have HB := n2_; clear n0_ n1_ n2_; (try clear hb); (try clear hb2); (try clear hk); (try clear hi); have hcz21_0 : w20.cell? ⟨gb138, 0, none⟩ = some (.int .i64 ((rd_T33 l1 x18_1).f0)) := (blk_cell BK138.out 0).trans rfl; have hcz21_1 : w20.cell? ⟨gb138, 1, none⟩ = some (.int .i64 ((rd_T33 l1 x18_1).f1)) := (blk_cell BK138.out 1).trans rfl; have hfz21_0 := blk_frozen BK138.out 0; have hfz21_1 := blk_frozen BK138.out 1))
             have n0_ := Aside0.mk (Kd.R_drew HO_5.out)
             have n1_ := Aside0.mk (blk_drew BK138.out)
             have n2_ := Aside0.mk (below_drew1 HB.out)
             clear HO_5
             clear BK138
             clear HB
             have HO_5 := n0_
             have BK138 := n1_
             have HB := n2_
             clear n0_ n1_ n2_
             obtain ⟨Ao23, co23, eo23⟩ := Kd.R_slice HO_5.out
             (first | subst eo23 | (injection eo23 with f1_ f2_ f3_; have f4_ := f1_.symm; have f5_ := f3_.symm; clear f1_ f2_ f3_; subst f4_; subst f5_))
             have p140 : 0 ≤ (((rd_T33 l1 x18_1).f0) : Int) := of_decide_eq_true (by first | (with_reducible assumption) | assumption)
             have q140 : ((rd_T33 l1 x18_1).f0) < (x5_1.length : Int) := of_decide_eq_true (by first | (with_reducible assumption) | assumption)
             obtain ⟨ad140, e140, hx140_0⟩ := Kd.at_int (Kd.R_reads' HO_5.out).2.2 ((rd_T33 l1 x18_1).f0) p140 q140
             cases e140
             replace p140 := eq_true p140
             replace q140 := eq_true q140
             have p17 : 0 ≤ (((rd_T33 l1 x18_1).f0) : Int) := of_decide_eq_true (by first | (with_reducible assumption) | assumption)
             have q17 : (((rd_T33 l1 x18_1).f0) : Int) < ((x5_1.length : Int) : Int) := of_decide_eq_true (by first | (with_reducible assumption) | assumption)
             obtain ⟨go17, co17, eo17, gb17, gl17, cl17, HG17⟩ := Kd.R_form HO_5.out (by omega)
             (first | cases eo17 | (injection eo17 with ea_ en_ ec_; (first | subst ea_ | (injection ea_ with ea_; subst ea_)); subst ec_; clear en_))
             have GB17 := Aside0.mk gb17
             have GG17 := Aside0.mk HG17
             clear gb17 gl17 HG17
             (first | simp only [add_plain] at hx140_0 | skip)
             obtain ⟨hx17_0, hf17_0⟩ := Kd.R_celln 0 HO_5.out (((rd_T33 l1 x18_1).f0) : Int) p17 q17
             replace p17 := eq_true p17
             replace q17 := eq_true q17
             have HP24 := Kd.R_putn HO_5.out (((rd_T33 l1 x18_1).f0) : Int) ji16
             rw [← Ny141.out] at HP24
             have HQ24 := Aside0.mk HP24; clear HP24
             refine start_ (n := 13) (S := fun w' => w'.cell? ⟨gb138, 0, none⟩ = some (.int .i64 ((rd_T33 l1 x18_1).f0)) ∧ w'.cell? ⟨gb138, 1, none⟩ = some (.int .i64 ((rd_T33 l1 x18_1).f1)) ∧ w'.cell? ⟨go17, (((rd_T33 l1 x18_1).f0)).toNat, none⟩ = some (.int .i64 (rd x5_1 ((rd_T33 l1 x18_1).f0)))) (ds := [12]) #[false, false, false, false, false, false, false, false, false, false, false, false, false] (by kernel_rfl) rfl rfl ⟨(blk_cell BK138.out 0).trans rfl, (blk_cell BK138.out 1).trans rfl, hx140_0⟩ (fun hHeld => ?_); refine with_tabW span_Groups.tab8 span_Groups.bits8 (fun HT_ HW_ => ?_)
             generalize w20.drew = w22 at HO_5 BK138 HB GG17 HQ24 hf17_0 hx140_0 hx17_0 hHeld ⊢
             refine pure_ (i := 0) (N := some 30) (v := ?_) (a' := ?_) #[true, false, false, false, false, false, false, false, false, false, false, false, false] rfl rfl (any_of HT_.out (by kernel_rfl)) (fun _ _ _ h => h) (Or.inl ⟨by rfl, ?_⟩) ?_ ?_
             rotate_left
             ·intro w'
              go_simp
              with_reducible rfl
             rotate_left
             ·simp only [Act.put, List.setIfInBounds_toArray, List.set_cons_zero, List.set_cons_succ, i64_w, i32_w]
              rfl
             refine pure_ (i := 1) (N := some 31) (v := ?_) (a' := ?_) #[true, true, false, false, false, false, false, false, false, false, false, false, false] rfl rfl (any_of HT_.out (by kernel_rfl)) (fun _ _ _ h => h) (Or.inl ⟨by rfl, ?_⟩) ?_ ?_
             rotate_left
             ·intro w'
              go_simp
              with_reducible rfl
             rotate_left
             ·simp only [Act.put, List.setIfInBounds_toArray, List.set_cons_zero, List.set_cons_succ, i64_w, i32_w]
              rfl
             refine pure_ (i := 3) (N := some 33) (v := ?_) (a' := ?_) #[true, true, false, true, false, false, false, false, false, false, false, false, false] rfl rfl (any_of HT_.out (by kernel_rfl)) (fun _ _ _ h => h) (Or.inl ⟨by rfl, ?_⟩) ?_ ?_
             rotate_left
             ·intro w'
              go_simp
              with_reducible rfl
             rotate_left
             ·simp only [Act.put, List.setIfInBounds_toArray, List.set_cons_zero, List.set_cons_succ, i64_w, i32_w]
              rfl
             refine pure_ (i := 4) (N := some 34) (v := ?_) (a' := ?_) #[true, true, false, true, true, false, false, false, false, false, false, false, false] rfl rfl (any_of HT_.out (by kernel_rfl)) (fun _ _ _ h => h) (Or.inl ⟨by rfl, ?_⟩) ?_ ?_
             rotate_left
             ·intro w'
              go_simp
              with_reducible rfl
             rotate_left
             ·simp only [Act.put, List.setIfInBounds_toArray, List.set_cons_zero, List.set_cons_succ, i64_w, i32_w]
              rfl
             refine pure_ (i := 8) (N := some 38) (v := ?_) (a' := ?_) #[true, true, false, true, true, false, false, false, true, false, false, false, false] rfl rfl (any_of HT_.out (by kernel_rfl)) (fun _ _ _ h => h) (Or.inl ⟨by rfl, ?_⟩) ?_ ?_
             rotate_left
             ·intro w'
              go_simp
              with_reducible rfl
             rotate_left
             ·simp only [Act.put, List.setIfInBounds_toArray, List.set_cons_zero, List.set_cons_succ, i64_w, i32_w]
              rfl
             refine take_ (i := 2) (N := some 32) (v := ?_) (a' := ?_) #[true, true, true, true, true, false, false, false, true, false, false, false, false] rfl rfl (take_ofW HT_.out HW_.out (by kernel_rfl)) (fun _ _ _ h => h) (Or.inl ⟨by rfl, ?_⟩) hHeld ?_ ?_
             rotate_left
             ·rintro w' ⟨s0, s1, s2⟩
              go_simp
              with_reducible rfl
             rotate_left
             ·simp only [Act.put, List.setIfInBounds_toArray, List.set_cons_zero, List.set_cons_succ, i64_w, i32_w]
              rfl
             refine take_ (i := 5) (N := some 35) (v := ?_) (a' := ?_) #[true, true, true, true, true, true, false, false, true, false, false, false, false] rfl rfl (take_ofW HT_.out HW_.out (by kernel_rfl)) (fun _ _ _ h => h) (Or.inl ⟨by rfl, ?_⟩) hHeld ?_ ?_
             rotate_left
             ·rintro w' ⟨s0, s1, s2⟩
              go_simp
              with_reducible rfl
             rotate_left
             ·simp only [Act.put, List.setIfInBounds_toArray, List.set_cons_zero, List.set_cons_succ, i64_w, i32_w]
              rfl
             refine pure_ (i := 6) (N := some 36) (v := ?_) (a' := ?_) #[true, true, true, true, true, true, true, false, true, false, false, false, false] rfl rfl (any_of HT_.out (by kernel_rfl)) (fun _ _ _ h => h) (Or.inl ⟨by rfl, ?_⟩) ?_ ?_
             rotate_left
             ·intro w'
              go_simp
              with_reducible rfl
             rotate_left
             ·simp only [Act.put, List.setIfInBounds_toArray, List.set_cons_zero, List.set_cons_succ, i64_w, i32_w]
              rfl
             refine take_ (i := 7) (N := some 37) (v := ?_) (a' := ?_) #[true, true, true, true, true, true, true, true, true, false, false, false, false] rfl rfl (take_ofW HT_.out HW_.out (by kernel_rfl)) (fun _ _ _ h => h) (Or.inl ⟨by rfl, ?_⟩) hHeld ?_ ?_
             rotate_left
             ·rintro w' ⟨s0, s1, s2⟩
              go_simp
              with_reducible rfl
             rotate_left
             ·simp only [Act.put, List.setIfInBounds_toArray, List.set_cons_zero, List.set_cons_succ, i64_w, i32_w]
              rfl
             refine take_ (i := 9) (N := some 39) (v := ?_) (a' := ?_) #[true, true, true, true, true, true, true, true, true, true, false, false, false] rfl rfl (take_ofW HT_.out HW_.out (by kernel_rfl)) (fun _ _ _ h => h) (Or.inl ⟨by rfl, ?_⟩) hHeld ?_ ?_
             rotate_left
             ·rintro w' ⟨s0, s1, s2⟩
              go_simp
              with_reducible rfl
             rotate_left
             ·simp only [Act.put, List.setIfInBounds_toArray, List.set_cons_zero, List.set_cons_succ, i64_w, i32_w]
              rfl
             refine pure_ (i := 10) (N := some 40) (v := ?_) (a' := ?_) #[true, true, true, true, true, true, true, true, true, true, true, false, false] rfl rfl (any_of HT_.out (by kernel_rfl)) (fun _ _ _ h => h) (Or.inl ⟨by rfl, ?_⟩) ?_ ?_
             rotate_left
             ·intro w'
              go_simp
              with_reducible rfl
             rotate_left
             ·simp only [Act.put, List.setIfInBounds_toArray, List.set_cons_zero, List.set_cons_succ, i64_w, i32_w]
              rfl
             refine pure_ (i := 11) (N := some 41) (v := ?_) (a' := ?_) #[true, true, true, true, true, true, true, true, true, true, true, true, false] rfl rfl (any_of HT_.out (by kernel_rfl)) (fun _ _ _ h => h) (Or.inl ⟨by rfl, ?_⟩) ?_ ?_
             rotate_left
             ·intro w'
              go_simp
              with_reducible rfl
             rotate_left
             ·simp only [Act.put, List.setIfInBounds_toArray, List.set_cons_zero, List.set_cons_succ, i64_w, i32_w]
              rfl
             refine last_ (i := 12) (N := none) #[true, true, true, true, true, true, true, true, true, true, true, true, true] rfl rfl (one_of HT_.out (by kernel_rfl)) (by decide) (fun K hK => ?_)
             refine skip_ (w1 := ?_) (by rfl) rfl ?_ ?_
             rotate_left
             ·go_simp
              rfl
             refine hK.out _ _ ?_
             clear hK K
             refine done_ (done_of HT_.out (by kernel_rfl)) ?_
             try go_wp2
             go_roundg k1
             case measure => have := HK1.out; omega
             case rel => exact ⟨(y141), (wrap64 (x18_1 + 1)), (by first | rfl | (simp; done) | (simp [*]; done)), H', ⟨by have := HK1.out; omega⟩, ⟨by (with_reducible repeat (first | apply Kd.R_alloc | apply Kd.R_drewN | apply Kd.R_drew)); exact HQ24.out⟩, ⟨by repeat (first | (with_reducible first | exact HB.out | apply below_alloc | apply pw_below_drewN | apply below_drew1 | refine below_set ?_ GB17.out | refine below_set ?_ GE138.out) | exact HB.out)⟩⟩
            ·rw [if_neg c15] at H
             exact absurd H (by simp)
           ·rw [if_neg c14] at H
            exact absurd H (by simp)
          ·rw [if_neg c13] at H
           have c13b0 : decide (((rd_T33 l1 x18_1).f1) ≤ a0) = false := decide_eq_false c13
           clear c13
           have H' := Aside0.mk H
           clear H
           have p137 : 0 ≤ (x18_1 : Int) := of_decide_eq_true (by first | (with_reducible assumption) | assumption)
           have q137 : x18_1 < (l1.length : Int) := of_decide_eq_true (by first | (with_reducible assumption) | assumption)
           obtain ⟨ad137, e137, hx137_0, hx137_1⟩ := at_T33 HR1.out x18_1 p137 q137
           cases e137
           replace hx137_0 := (HB.out.cell (World.block_lt_of_cell? w _ hx137_0)).trans hx137_0
           replace hx137_1 := (HB.out.cell (World.block_lt_of_cell? w _ hx137_1)).trans hx137_1
           replace p137 := eq_true p137
           replace q137 := eq_true q137
           go_wp2_with (first | ((with_reducible refine gate_dst (N := 7) rfl ?_); refine box_event ?hg (N := 7) ?hd (cs := #[.int .i64 0, .int .i64 0]) (t := 34) ?hr ?_; (case hd => rfl); (case hg => rfl); (case hr => first | (go_simp; done) | (go_simp; rfl)); intro gb138 hg w25 hbox hb; have n0_ := Aside0.mk (Kd.R_below (by (with_reducible repeat (first | apply Kd.R_alloc | apply Kd.R_drewN | apply Kd.R_drew)); exact HO_5.out) hb); have n1_ := Aside0.mk (below_step (by repeat (first | (with_reducible first | exact HB.out | apply below_alloc | apply pw_below_drewN | apply below_drew1) | exact HB.out)) hb); have n2_ := Aside0.mk (hbox); have n3_ := Aside0.mk ((by rw [hg]; exact (below_size (by repeat (first | (with_reducible first | exact HB.out | apply below_alloc | apply pw_below_drewN | apply below_drew1) | exact HB.out))) : w.heap.size ≤ gb138)); have n4_ := Aside0.mk ((by rw [hg]; exact (below_size (by repeat (first | (with_reducible first | exact HB.out | apply below_alloc | apply pw_below_drewN | apply below_drew1) | exact HB.out))) : w.heap.size ≤ gb138)); clear HO_5; clear HB; have HO_5 := n0_; have HB := n1_; have BK138 := n2_; have GW138 := n3_; have GE138 := n4_; clear n0_ n1_ n2_ n3_ n4_; clear hb hbox hg; have hcz26_0 : w25.cell? ⟨gb138, 0, none⟩ = some (.int .i64 0) := (blk_cell BK138.out 0).trans rfl; have hcz26_1 : w25.cell? ⟨gb138, 1, none⟩ = some (.int .i64 0) := (blk_cell BK138.out 1).trans rfl; have hfz26_0 := blk_frozen BK138.out 0; have hfz26_1 := blk_frozen BK138.out 1) | ((with_reducible refine gate_callee (f := 119) rfl ?_); refine goesL_ (some 23) rfl rfl Tryz.func119 (by kernel_rfl) rfl #[.agg #[.int .i64 ((rd_T33 l1 x18_1).f0), .int .i64 ((rd_T33 l1 x18_1).f1)]] rfl (by (try simp only [List.map_toArray, List.map_cons, List.map_nil]); first | done | rfl | (simp only [List.length_drop, List.length_take]; rfl)) ?_; (with_reducible refine (span_Right.calls ((rd_T33 l1 x18_1).f0) ((rd_T33 l1 x18_1).f1) true _ A11.out).mono ?_); rintro e w27 ⟨rfl, hb⟩; refine ⟨_, rfl, ?_⟩; have n0_ := Aside0.mk (Kd.R_below (by (with_reducible repeat (first | apply Kd.R_alloc | apply Kd.R_drewN | apply Kd.R_drew)); exact (Kd.R_mono (Kd.R_far (p := ⟨gb138, 1, none⟩) (Kd.R_far (p := ⟨gb138, 0, none⟩) (Kd.R_types HO_5.out BK138.out (by decide)) (fun _ hk => hk.2) (.int .i64 ((rd_T33 l1 x18_1).f0))) (fun _ hk => hk.2) (.int .i64 ((rd_T33 l1 x18_1).f1))) (fun _ h_ => h_.1))) hb); have n1_ := Aside0.mk (blk_below (g := gb138) (o := .cells #[.int .i64 ((rd_T33 l1 x18_1).f0), .int .i64 ((rd_T33 l1 x18_1).f1)] 34 (0, 0)) (by (with_reducible repeat (first | refine blk_drewN ?_ _ | refine blk_drew ?_ | refine blk_alloc ?_ _)); refine blk_put (cs := #[.int .i64 ((rd_T33 l1 x18_1).f0), .int .i64 0]) ?_ 1 _ rfl; (with_reducible repeat (first | refine blk_drewN ?_ _ | refine blk_drew ?_ | refine blk_alloc ?_ _)); refine blk_put (cs := #[.int .i64 0, .int .i64 0]) ?_ 0 _ rfl; (with_reducible repeat (first | refine blk_drewN ?_ _ | refine blk_drew ?_ | refine blk_alloc ?_ _)); exact BK138.out) hb); have n2_ := Aside0.mk (below_step (by repeat (first | (with_reducible first | exact HB.out | apply below_alloc | apply pw_below_drewN | apply below_drew1 | refine below_set ?_ GE138.out) | exact HB.out)) hb); clear HO_5; clear BK138; clear HB; have HO_5 := n0_; have BK138 := n1_; have HB := n2_; clear n0_ n1_ n2_; (try clear hb); (try clear hb2); (try clear hk); (try clear hi); have hcz28_0 : w27.cell? ⟨gb138, 0, none⟩ = some (.int .i64 ((rd_T33 l1 x18_1).f0)) := (blk_cell BK138.out 0).trans rfl; have hcz28_1 : w27.cell? ⟨gb138, 1, none⟩ = some (.int .i64 ((rd_T33 l1 x18_1).f1)) := (blk_cell BK138.out 1).trans rfl; have hfz28_0 := blk_frozen BK138.out 0; have hfz28_1 := blk_frozen BK138.out 1))
           go_roundg k1
           case measure => have := HK1.out; omega
           case rel => exact ⟨(x5_1), (wrap64 (x18_1 + 1)), (by first | rfl | (simp; done) | (simp [*]; done)), H', ⟨by have := HK1.out; omega⟩, ⟨by (with_reducible repeat (first | apply Kd.R_alloc | apply Kd.R_drewN | apply Kd.R_drew)); exact HO_5.out⟩, ⟨by repeat (first | (with_reducible first | exact HB.out | apply below_alloc | apply pw_below_drewN | apply below_drew1 | refine below_set ?_ GE138.out) | exact HB.out)⟩⟩
         ·replace c12 := Bool.eq_false_iff.mpr c12
          subst c12
          rw [if_neg (show ¬ (false = true) by decide)] at H
          have H' := Aside0.mk H
          clear H
          have p137 : 0 ≤ (x18_1 : Int) := of_decide_eq_true (by first | (with_reducible assumption) | assumption)
          have q137 : x18_1 < (l1.length : Int) := of_decide_eq_true (by first | (with_reducible assumption) | assumption)
          obtain ⟨ad137, e137, hx137_0, hx137_1⟩ := at_T33 HR1.out x18_1 p137 q137
          cases e137
          replace hx137_0 := (HB.out.cell (World.block_lt_of_cell? w _ hx137_0)).trans hx137_0
          replace hx137_1 := (HB.out.cell (World.block_lt_of_cell? w _ hx137_1)).trans hx137_1
          replace p137 := eq_true p137
          replace q137 := eq_true q137
          go_wp2_with (first | ((with_reducible refine gate_dst (N := 7) rfl ?_); refine box_event ?hg (N := 7) ?hd (cs := #[.int .i64 0, .int .i64 0]) (t := 34) ?hr ?_; (case hd => rfl); (case hg => rfl); (case hr => first | (go_simp; done) | (go_simp; rfl)); intro gb138 hg w29 hbox hb; have n0_ := Aside0.mk (Kd.R_below (by (with_reducible repeat (first | apply Kd.R_alloc | apply Kd.R_drewN | apply Kd.R_drew)); exact HO_5.out) hb); have n1_ := Aside0.mk (below_step (by repeat (first | (with_reducible first | exact HB.out | apply below_alloc | apply pw_below_drewN | apply below_drew1) | exact HB.out)) hb); have n2_ := Aside0.mk (hbox); have n3_ := Aside0.mk ((by rw [hg]; exact (below_size (by repeat (first | (with_reducible first | exact HB.out | apply below_alloc | apply pw_below_drewN | apply below_drew1) | exact HB.out))) : w.heap.size ≤ gb138)); have n4_ := Aside0.mk ((by rw [hg]; exact (below_size (by repeat (first | (with_reducible first | exact HB.out | apply below_alloc | apply pw_below_drewN | apply below_drew1) | exact HB.out))) : w.heap.size ≤ gb138)); clear HO_5; clear HB; have HO_5 := n0_; have HB := n1_; have BK138 := n2_; have GW138 := n3_; have GE138 := n4_; clear n0_ n1_ n2_ n3_ n4_; clear hb hbox hg; have hcz30_0 : w29.cell? ⟨gb138, 0, none⟩ = some (.int .i64 0) := (blk_cell BK138.out 0).trans rfl; have hcz30_1 : w29.cell? ⟨gb138, 1, none⟩ = some (.int .i64 0) := (blk_cell BK138.out 1).trans rfl; have hfz30_0 := blk_frozen BK138.out 0; have hfz30_1 := blk_frozen BK138.out 1) | ((with_reducible refine gate_callee (f := 119) rfl ?_); refine goesL_ (some 23) rfl rfl Tryz.func119 (by kernel_rfl) rfl #[.agg #[.int .i64 ((rd_T33 l1 x18_1).f0), .int .i64 ((rd_T33 l1 x18_1).f1)]] rfl (by (try simp only [List.map_toArray, List.map_cons, List.map_nil]); first | done | rfl | (simp only [List.length_drop, List.length_take]; rfl)) ?_; (with_reducible refine (span_Right.calls ((rd_T33 l1 x18_1).f0) ((rd_T33 l1 x18_1).f1) false _ A11.out).mono ?_); rintro e w31 ⟨rfl, hb⟩; refine ⟨_, rfl, ?_⟩; have n0_ := Aside0.mk (Kd.R_below (by (with_reducible repeat (first | apply Kd.R_alloc | apply Kd.R_drewN | apply Kd.R_drew)); exact (Kd.R_mono (Kd.R_far (p := ⟨gb138, 1, none⟩) (Kd.R_far (p := ⟨gb138, 0, none⟩) (Kd.R_types HO_5.out BK138.out (by decide)) (fun _ hk => hk.2) (.int .i64 ((rd_T33 l1 x18_1).f0))) (fun _ hk => hk.2) (.int .i64 ((rd_T33 l1 x18_1).f1))) (fun _ h_ => h_.1))) hb); have n1_ := Aside0.mk (blk_below (g := gb138) (o := .cells #[.int .i64 ((rd_T33 l1 x18_1).f0), .int .i64 ((rd_T33 l1 x18_1).f1)] 34 (0, 0)) (by (with_reducible repeat (first | refine blk_drewN ?_ _ | refine blk_drew ?_ | refine blk_alloc ?_ _)); refine blk_put (cs := #[.int .i64 ((rd_T33 l1 x18_1).f0), .int .i64 0]) ?_ 1 _ rfl; (with_reducible repeat (first | refine blk_drewN ?_ _ | refine blk_drew ?_ | refine blk_alloc ?_ _)); refine blk_put (cs := #[.int .i64 0, .int .i64 0]) ?_ 0 _ rfl; (with_reducible repeat (first | refine blk_drewN ?_ _ | refine blk_drew ?_ | refine blk_alloc ?_ _)); exact BK138.out) hb); have n2_ := Aside0.mk (below_step (by repeat (first | (with_reducible first | exact HB.out | apply below_alloc | apply pw_below_drewN | apply below_drew1 | refine below_set ?_ GE138.out) | exact HB.out)) hb); clear HO_5; clear BK138; clear HB; have HO_5 := n0_; have BK138 := n1_; have HB := n2_; clear n0_ n1_ n2_; (try clear hb); (try clear hb2); (try clear hk); (try clear hi)))
          go_roundg k1
          case measure => have := HK1.out; omega
          case rel => exact ⟨(x5_1), (wrap64 (x18_1 + 1)), (by first | rfl | (simp; done) | (simp [*]; done)), H', ⟨by have := HK1.out; omega⟩, ⟨by (with_reducible repeat (first | apply Kd.R_alloc | apply Kd.R_drewN | apply Kd.R_drew)); exact HO_5.out⟩, ⟨by repeat (first | (with_reducible first | exact HB.out | apply below_alloc | apply pw_below_drewN | apply below_drew1 | refine below_set ?_ GE138.out) | exact HB.out)⟩⟩
        ·rw [if_neg c10] at H
         exact absurd H (by simp)
       ·rw [if_neg c9] at H
        exact absurd H (by simp)
      ·rw [if_neg c8] at H
       have c8b0 : decide (x18_1 < (l1.length : Int)) = false := decide_eq_false c8
       clear c8
       have H' := Aside0.mk H
       clear H
       go_wp2_with (first | ((with_reducible refine gate_dst (N := 9) rfl ?_); refine box_event ?hg (N := 9) ?hd (cs := #[.int .i64 0, .int .i64 0]) (t := 34) ?hr ?_; (case hd => rfl); (case hg => rfl); (case hr => first | (go_simp; done) | (go_simp; rfl)); intro gb142 hg w32 hbox hb; have n0_ := Aside0.mk (Kd.R_below (by (with_reducible repeat (first | apply Kd.R_alloc | apply Kd.R_drewN | apply Kd.R_drew)); exact HO_5.out) hb); have n1_ := Aside0.mk (below_step (by repeat (first | (with_reducible first | exact HB.out | apply below_alloc | apply pw_below_drewN | apply below_drew1) | exact HB.out)) hb); have n2_ := Aside0.mk (hbox); have n3_ := Aside0.mk ((by rw [hg]; exact (below_size (by repeat (first | (with_reducible first | exact HB.out | apply below_alloc | apply pw_below_drewN | apply below_drew1) | exact HB.out))) : w.heap.size ≤ gb142)); have n4_ := Aside0.mk ((by rw [hg]; exact (below_size (by repeat (first | (with_reducible first | exact HB.out | apply below_alloc | apply pw_below_drewN | apply below_drew1) | exact HB.out))) : w.heap.size ≤ gb142)); clear HO_5; clear HB; have HO_5 := n0_; have HB := n1_; have BK142 := n2_; have GW142 := n3_; have GE142 := n4_; clear n0_ n1_ n2_ n3_ n4_; clear hb hbox hg; have hcz33_0 : w32.cell? ⟨gb142, 0, none⟩ = some (.int .i64 0) := (blk_cell BK142.out 0).trans rfl; have hcz33_1 : w32.cell? ⟨gb142, 1, none⟩ = some (.int .i64 0) := (blk_cell BK142.out 1).trans rfl; have hfz33_0 := blk_frozen BK142.out 0; have hfz33_1 := blk_frozen BK142.out 1; obtain ⟨Ao34, co34, eo34⟩ := Kd.R_slice HO_5.out; subst eo34))
       go_loopg [8, 46] k1 (fun kq v8 v46 w' => ∃ (x8_2 : List (S33)) (x46_2 : Int) (x143000_2 : Int) (x143001_2 : Int), v46 = .int .i64 x46_2 ∧ Aside0 (span_Groups.l1 kq x8_2 x5_1 (x5_1.length : Int) x46_2 x143000_2 x143001_2 = some r) ∧ Aside0 (kq ≤ k1) ∧ Aside0 (Kd.R k33 34 w' w.heap.size (fun k_ => k_ ≠ gb142) v8 x8_2) ∧ Aside0 (Kd.R (Kd.int .i64) 3 w' w.heap.size (fun _ => True) (.slice Ao34 x5_1.length co34) x5_1) ∧ Aside0 (w'.heap[gb142]? = some (.cells #[.int .i64 x143000_2, .int .i64 x143001_2] 34 (0, 0))) ∧ Aside0 (Below w.heap.size w w'))
       case atStart => exact ⟨(([] : List (S33))), (0), (0), (1), (by first | rfl | (simp; done) | (simp [*]; done)), H', ⟨Nat.le_refl _⟩, ⟨by first | exact Kd.R_nil _ _ _ _ _ | exact Kd.N_nil _ _ _ _ _ | exact Kd.V_nil _ _ _ _ _ | exact Kd.Q_nil _ _ _ _ _ | exact Kd.S_nil _ _ _ _ _⟩, ⟨by (with_reducible repeat (first | apply Kd.R_alloc | apply Kd.R_drewN | apply Kd.R_drew)); exact Kd.R_mono (Kd.R_far (p := ⟨gb142, 1, none⟩) (Kd.R_far (p := ⟨gb142, 0, none⟩) (Kd.R_types HO_5.out BK142.out (by decide)) (fun _ hk => hk.2) (.int .i64 0)) (fun _ hk => hk.2) (.int .i64 1)) (fun _ hk => trivial)⟩, ⟨by (with_reducible repeat (first | refine blk_drewN ?_ _ | refine blk_drew ?_ | refine blk_alloc ?_ _)); refine blk_put (cs := #[.int .i64 0, .int .i64 0]) ?_ 1 _ rfl; (with_reducible repeat (first | refine blk_drewN ?_ _ | refine blk_drew ?_ | refine blk_alloc ?_ _)); refine blk_put (cs := #[.int .i64 0, .int .i64 0]) ?_ 0 _ rfl; (with_reducible repeat (first | refine blk_drewN ?_ _ | refine blk_drew ?_ | refine blk_alloc ?_ _)); exact BK142.out⟩, ⟨by repeat (first | (with_reducible first | exact HB.out | apply below_alloc | apply pw_below_drewN | apply below_drew1 | refine below_set ?_ GE142.out) | exact HB.out)⟩⟩
       case round =>
        clear H'
        try clear c1
        try clear p1
        try clear q1
        try clear hx1
        try clear p2
        try clear c3
        try clear c3b0
        try clear c4
        try clear c4b0
        try clear c4b1
        try clear c5
        try clear c5b0
        try clear c5b1
        try clear p6
        try clear c8
        try clear c8b0
        try clear c9
        try clear c9b0
        try clear c10
        try clear c10b0
        try clear c12
        try clear c13
        try clear c13b0
        try clear p13
        try clear q13
        try clear hx13
        try clear c14
        try clear c14b0
        try clear p14
        try clear q14
        try clear hx14
        try clear c15
        try clear c15b0
        try clear p17
        try clear q17
        try clear hx17
        try clear hf17
        try clear hcz19_0
        try clear hcz19_1
        try clear hcz21_0
        try clear hcz21_1
        try clear hcz26_0
        try clear hcz26_1
        try clear hcz28_0
        try clear hcz28_1
        try clear hcz30_0
        try clear hcz30_1
        try clear hcz33_0
        try clear hcz33_1
        try clear hfz19_0
        try clear hfz19_1
        try clear hfz21_0
        try clear hfz21_1
        try clear hfz26_0
        try clear hfz26_1
        try clear hfz28_0
        try clear hfz28_1
        try clear hfz30_0
        try clear hfz30_1
        try clear hfz33_0
        try clear hfz33_1
        try clear hx137_0
        try clear hx137_1
        try clear hx140_0
        try clear hx17_0
        try clear p137
        try clear p140
        try clear p17
        try clear p2
        try clear q137
        try clear q140
        try clear q17
        obtain ⟨x8_2, x46_2, x143000_2, x143001_2, rfl, HA, HK2, HO_8, HO_44, BK142, HB⟩ := hrel
        cases gk with
        | zero => exact absurd HA.out (by simp [span_Groups.l1])
        | succ k2 =>
         have H := HA.out
         clear HA
         simp only [span_Groups.l1] at H
         by_cases c35 : x46_2 < (x5_1.length : Int)
         ·rw [if_pos c35] at H
          have c35b0 : decide (x46_2 < (x5_1.length : Int)) = true := decide_eq_true c35
          clear c35
          by_cases c36 : 0 ≤ x46_2
          ·rw [if_pos c36] at H
           have c36b0 : decide (0 ≤ x46_2) = true := decide_eq_true c36
           clear c36
           by_cases c37 : x46_2 < (x5_1.length : Int)
           ·rw [if_pos c37] at H
            have c37b0 : decide (x46_2 < (x5_1.length : Int)) = true := decide_eq_true c37
            clear c37
            by_cases c38 : x46_2 = x143001_2
            ·rw [if_pos c38] at H
             have c38b0 : (x46_2 == x143001_2) = true := beq_iff_eq.mpr c38
             have c38b1 : (x46_2 != x143001_2) = false := bne_eq_false_iff_eq.mpr c38
             clear c38
             by_cases c39 : x8_2.length < 8796093022208
             ·rw [if_pos c39] at H
              have LMc39 := Aside0.mk c39; clear c39
              obtain ⟨y144, hy144⟩ : ∃ y_ : List (S33), y_ = (x8_2 ++ [(⟨x143000_2, x143001_2⟩ : S33)]) := ⟨_, rfl⟩
              replace H : (span_Groups.l1 k2 y144 x5_1 (x5_1.length : Int) (wrap64 (x46_2 + 1)) x46_2 (mx (wrap64 (x46_2 + 1)) (rd x5_1 x46_2))) = some r := by first | (rw [hy144]; with_reducible exact H) | (have H2_ := (Option.bind_some _ _).symm.trans H; rw [hy144]; with_reducible exact H2_) | (have H2_ := (Option.bind_some _ _).symm.trans H; with_reducible exact H2_) | with_reducible exact H | (rw [hy144]; exact H) | exact H
              have Ny144 := Aside0.mk hy144; clear hy144
              obtain ⟨ji40, hji40⟩ : ∃ j_ : Int, (mx (wrap64 (x46_2 + 1)) (rd x5_1 x46_2)) = j_ := ⟨_, rfl⟩
              replace H : (span_Groups.l1 k2 y144 x5_1 (x5_1.length : Int) (wrap64 (x46_2 + 1)) x46_2 ji40) = some r := by first | (rw [hji40] at H; exact H) | (simp only [hji40] at H ⊢; exact H)
              have hji40_ : (if (wrap64 (x46_2 + 1)) < (rd x5_1 x46_2) then (rd x5_1 x46_2) else (wrap64 (x46_2 + 1))) = ji40 := hji40
              have H' := Aside0.mk H
              clear H
              have p143 : 0 ≤ (x46_2 : Int) := of_decide_eq_true (by first | (with_reducible assumption) | assumption)
              have q143 : x46_2 < (x5_1.length : Int) := of_decide_eq_true (by first | (with_reducible assumption) | assumption)
              obtain ⟨ad143, e143, hx143_0⟩ := Kd.at_int (Kd.R_reads' HO_44.out).2.2 x46_2 p143 q143
              cases e143
              replace p143 := eq_true p143
              replace q143 := eq_true q143
              have hcz41_0 : wr.cell? ⟨gb142, 0, none⟩ = some (.int .i64 x143000_2) := (blk_cell BK142.out 0).trans rfl
              have hcz41_1 : wr.cell? ⟨gb142, 1, none⟩ = some (.int .i64 x143001_2) := (blk_cell BK142.out 1).trans rfl
              have hfz41_0 := blk_frozen BK142.out 0
              have hfz41_1 := blk_frozen BK142.out 1
              go_wp2_with (first | ((with_reducible refine gate_builtin (b := .append) (xs := #[.tmp 55, .tmp 57]) rfl ?_); at_builtin; refine Kd.R_append k33 (w0 := w) w.heap.size rfl (.tmp 55) (.tmp 57) 98 34 (.agg #[(.int .i64 0), (.int .i64 0)]) 16 rfl Tryz.underlying98 info33 rfl (by decide) (by omega) u8 x8_2 (⟨x143000_2, x143001_2⟩ : S33) [.int .i64 x143000_2, .int .i64 x143001_2] (fun k_ => k_ ≠ gb142) (fun _ => False) rfl rfl ?aP (fun _ hk => hk.elim) ?aF ?aO ?aB ?aS ?aL ?_; (case aP => exact k33_mkM _ _ _ (⟨x143000_2, x143001_2⟩ : S33)); (case aB => exact (by repeat (first | (with_reducible first | exact HB.out | apply below_alloc | apply pw_below_drewN | apply below_drew1 | refine below_set ?_ GE142.out) | exact HB.out))); (case aF => exact (fun k_ hk => Kd.freshB (g := gb142) (o := .cells #[.int .i64 x143000_2, .int .i64 x143001_2] 34 (0, 0)) (by (with_reducible repeat (first | refine blk_drewN ?_ _ | refine blk_drew ?_ | refine blk_alloc ?_ _)); exact BK142.out) k_ hk)); (case aO => exact (by (with_reducible repeat (first | apply Kd.R_alloc | apply Kd.R_drewN | apply Kd.R_drew)); exact HO_8.out)); (case aS => exact (below_size (by repeat (first | (with_reducible first | exact HB.out | apply below_alloc | apply pw_below_drewN | apply below_drew1 | refine below_set ?_ GE142.out) | exact HB.out)))); (case aL => have := LMc39.out; omega); intro v145 w42 ho hb hg hat; rw [← Ny144.out] at ho; have n0_ := Aside0.mk (Kd.R_over' (by (with_reducible repeat (first | apply Kd.R_alloc | apply Kd.R_drewN | apply Kd.R_drew)); exact HO_44.out) (Kd.R_typed (by (with_reducible repeat (first | apply Kd.R_alloc | apply Kd.R_drewN | apply Kd.R_drew)); exact HO_8.out)) (by decide) hg); have n1_ := Aside0.mk (blk_grown (g := gb142) (o := .cells #[.int .i64 x143000_2, .int .i64 x143001_2] 34 (0, 0)) (by (with_reducible repeat (first | refine blk_drewN ?_ _ | refine blk_drew ?_ | refine blk_alloc ?_ _)); exact BK142.out) hg (Kd.R_away HO_8.out (fun _ hk => hk))); have n2_ := Aside0.mk (hb); have n3_ := Aside0.mk (ho); clear HO_44; clear BK142; clear HB; clear HO_8; have HO_44 := n0_; have BK142 := n1_; have HB := n2_; have HO146 := n3_; clear n0_ n1_ n2_ n3_; clear ho hb hg hat; have hcz43_0 : w42.cell? ⟨gb142, 0, none⟩ = some (.int .i64 x143000_2) := (blk_cell BK142.out 0).trans rfl; have hcz43_1 : w42.cell? ⟨gb142, 1, none⟩ = some (.int .i64 x143001_2) := (blk_cell BK142.out 1).trans rfl; have hfz43_0 := blk_frozen BK142.out 0; have hfz43_1 := blk_frozen BK142.out 1))
              go_roundg k2
              case measure => have := HK1.out; have := HK2.out; omega
              case rel => exact ⟨(y144), (wrap64 (x46_2 + 1)), (x46_2), (ji40), (by first | rfl | (simp; done) | (simp [*]; done)), H', ⟨by have := HK1.out; have := HK2.out; omega⟩, ⟨by (with_reducible repeat (first | apply Kd.R_alloc | apply Kd.R_drewN | apply Kd.R_drew)); exact Kd.R_mono (Kd.R_far (p := ⟨gb142, 1, none⟩) (Kd.R_far (p := ⟨gb142, 1, none⟩) (Kd.R_far (p := ⟨gb142, 0, none⟩) (Kd.R_mono HO146.out (fun k_ hk => (⟨hk, hk⟩ : _ ∧ k_ ≠ gb142))) (fun _ hk => hk.2) (.int .i64 x46_2)) (fun _ hk => hk.2) (.int .i64 (wrap64 (x46_2 + 1)))) (fun _ hk => hk.2) (.int .i64 ji40)) (fun _ hk => hk.1)⟩, ⟨by (with_reducible repeat (first | apply Kd.R_alloc | apply Kd.R_drewN | apply Kd.R_drew)); exact Kd.R_mono (Kd.R_far (p := ⟨gb142, 1, none⟩) (Kd.R_far (p := ⟨gb142, 1, none⟩) (Kd.R_far (p := ⟨gb142, 0, none⟩) (Kd.R_types HO_44.out BK142.out (by decide)) (fun _ hk => hk.2) (.int .i64 x46_2)) (fun _ hk => hk.2) (.int .i64 (wrap64 (x46_2 + 1)))) (fun _ hk => hk.2) (.int .i64 ji40)) (fun _ hk => trivial)⟩, ⟨by (with_reducible repeat (first | refine blk_drewN ?_ _ | refine blk_drew ?_ | refine blk_alloc ?_ _)); refine blk_put (cs := #[.int .i64 x46_2, .int .i64 (wrap64 (x46_2 + 1))]) ?_ 1 _ rfl; (with_reducible repeat (first | refine blk_drewN ?_ _ | refine blk_drew ?_ | refine blk_alloc ?_ _)); refine blk_put (cs := #[.int .i64 x46_2, .int .i64 x143001_2]) ?_ 1 _ rfl; (with_reducible repeat (first | refine blk_drewN ?_ _ | refine blk_drew ?_ | refine blk_alloc ?_ _)); refine blk_put (cs := #[.int .i64 x143000_2, .int .i64 x143001_2]) ?_ 0 _ rfl; (with_reducible repeat (first | refine blk_drewN ?_ _ | refine blk_drew ?_ | refine blk_alloc ?_ _)); exact BK142.out⟩, ⟨by repeat (first | (with_reducible first | exact HB.out | apply below_alloc | apply pw_below_drewN | apply below_drew1 | refine below_set ?_ GE142.out) | exact HB.out)⟩⟩
             ·rw [if_neg c39] at H
              exact absurd H (by simp)
            ·rw [if_neg c38] at H
             have c38b0 : (x46_2 == x143001_2) = false := beq_eq_false_iff_ne.mpr c38
             have c38b1 : (x46_2 != x143001_2) = true := bne_iff_ne.mpr c38
             obtain ⟨ji44, hji44⟩ : ∃ j_ : Int, (mx x143001_2 (rd x5_1 x46_2)) = j_ := ⟨_, rfl⟩
             replace H : (span_Groups.l1 k2 x8_2 x5_1 (x5_1.length : Int) (wrap64 (x46_2 + 1)) x143000_2 ji44) = some r := by first | (rw [hji44] at H; exact H) | (simp only [hji44] at H ⊢; exact H)
             have hji44_ : (if x143001_2 < (rd x5_1 x46_2) then (rd x5_1 x46_2) else x143001_2) = ji44 := hji44
             have H' := Aside0.mk H
             clear H
             have p143 : 0 ≤ (x46_2 : Int) := of_decide_eq_true (by first | (with_reducible assumption) | assumption)
             have q143 : x46_2 < (x5_1.length : Int) := of_decide_eq_true (by first | (with_reducible assumption) | assumption)
             obtain ⟨ad143, e143, hx143_0⟩ := Kd.at_int (Kd.R_reads' HO_44.out).2.2 x46_2 p143 q143
             cases e143
             replace p143 := eq_true p143
             replace q143 := eq_true q143
             have hcz45_0 : wr.cell? ⟨gb142, 0, none⟩ = some (.int .i64 x143000_2) := (blk_cell BK142.out 0).trans rfl
             have hcz45_1 : wr.cell? ⟨gb142, 1, none⟩ = some (.int .i64 x143001_2) := (blk_cell BK142.out 1).trans rfl
             have hfz45_0 := blk_frozen BK142.out 0
             have hfz45_1 := blk_frozen BK142.out 1
             go_wp2
             go_roundg k2
             case measure => have := HK1.out; have := HK2.out; omega
             case rel => exact ⟨(x8_2), (wrap64 (x46_2 + 1)), (x143000_2), (ji44), (by first | rfl | (simp; done) | (simp [*]; done)), H', ⟨by have := HK1.out; have := HK2.out; omega⟩, ⟨by (with_reducible repeat (first | apply Kd.R_alloc | apply Kd.R_drewN | apply Kd.R_drew)); exact Kd.R_mono (Kd.R_far (p := ⟨gb142, 1, none⟩) (Kd.R_mono HO_8.out (fun k_ hk => (⟨hk, hk⟩ : _ ∧ k_ ≠ gb142))) (fun _ hk => hk.2) (.int .i64 ji44)) (fun _ hk => hk.1)⟩, ⟨by (with_reducible repeat (first | apply Kd.R_alloc | apply Kd.R_drewN | apply Kd.R_drew)); exact Kd.R_mono (Kd.R_far (p := ⟨gb142, 1, none⟩) (Kd.R_types HO_44.out BK142.out (by decide)) (fun _ hk => hk.2) (.int .i64 ji44)) (fun _ hk => trivial)⟩, ⟨by (with_reducible repeat (first | refine blk_drewN ?_ _ | refine blk_drew ?_ | refine blk_alloc ?_ _)); refine blk_put (cs := #[.int .i64 x143000_2, .int .i64 x143001_2]) ?_ 1 _ rfl; (with_reducible repeat (first | refine blk_drewN ?_ _ | refine blk_drew ?_ | refine blk_alloc ?_ _)); exact BK142.out⟩, ⟨by repeat (first | (with_reducible first | exact HB.out | apply below_alloc | apply pw_below_drewN | apply below_drew1 | refine below_set ?_ GE142.out) | exact HB.out)⟩⟩
           ·rw [if_neg c37] at H
            exact absurd H (by simp)
          ·rw [if_neg c36] at H
           exact absurd H (by simp)
         ·rw [if_neg c35] at H
          have c35b0 : decide (x46_2 < (x5_1.length : Int)) = false := decide_eq_false c35
          clear c35
          by_cases c46 : x8_2.length < 8796093022208
          ·rw [if_pos c46] at H
           have LMc46 := Aside0.mk c46; clear c46
           obtain ⟨y147, hy147⟩ : ∃ y_ : List (S33), y_ = (x8_2 ++ [(⟨x143000_2, x143001_2⟩ : S33)]) := ⟨_, rfl⟩
           replace H : (some y147) = some r := by first | (rw [hy147]; with_reducible exact H) | (have H2_ := (Option.bind_some _ _).symm.trans H; rw [hy147]; with_reducible exact H2_) | (have H2_ := (Option.bind_some _ _).symm.trans H; with_reducible exact H2_) | with_reducible exact H | (rw [hy147]; exact H) | exact H
           have Ny147 := Aside0.mk hy147; clear hy147
           obtain rfl := Option.some.inj H
           have hcz47_0 : wr.cell? ⟨gb142, 0, none⟩ = some (.int .i64 x143000_2) := (blk_cell BK142.out 0).trans rfl
           have hcz47_1 : wr.cell? ⟨gb142, 1, none⟩ = some (.int .i64 x143001_2) := (blk_cell BK142.out 1).trans rfl
           have hfz47_0 := blk_frozen BK142.out 0
           have hfz47_1 := blk_frozen BK142.out 1
           go_wp2_with (first | ((with_reducible refine gate_builtin (b := .append) (xs := #[.tmp 69, .tmp 71]) rfl ?_); at_builtin; refine Kd.R_append k33 (w0 := w) w.heap.size rfl (.tmp 69) (.tmp 71) 98 34 (.agg #[(.int .i64 0), (.int .i64 0)]) 16 rfl Tryz.underlying98 info33 rfl (by decide) (by omega) u8 x8_2 (⟨x143000_2, x143001_2⟩ : S33) [.int .i64 x143000_2, .int .i64 x143001_2] (fun k_ => k_ ≠ gb142) (fun _ => False) rfl rfl ?aP (fun _ hk => hk.elim) ?aF ?aO ?aB ?aS ?aL ?_; (case aP => exact k33_mkM _ _ _ (⟨x143000_2, x143001_2⟩ : S33)); (case aB => exact (by repeat (first | (with_reducible first | exact HB.out | apply below_alloc | apply pw_below_drewN | apply below_drew1 | refine below_set ?_ GE142.out) | exact HB.out))); (case aF => exact (fun k_ hk => Kd.freshB (g := gb142) (o := .cells #[.int .i64 x143000_2, .int .i64 x143001_2] 34 (0, 0)) (by (with_reducible repeat (first | refine blk_drewN ?_ _ | refine blk_drew ?_ | refine blk_alloc ?_ _)); exact BK142.out) k_ hk)); (case aO => exact (by (with_reducible repeat (first | apply Kd.R_alloc | apply Kd.R_drewN | apply Kd.R_drew)); exact HO_8.out)); (case aS => exact (below_size (by repeat (first | (with_reducible first | exact HB.out | apply below_alloc | apply pw_below_drewN | apply below_drew1 | refine below_set ?_ GE142.out) | exact HB.out)))); (case aL => have := LMc46.out; omega); intro v148 w48 ho hb hg hat; rw [← Ny147.out] at ho; have n0_ := Aside0.mk (Kd.R_over' (by (with_reducible repeat (first | apply Kd.R_alloc | apply Kd.R_drewN | apply Kd.R_drew)); exact HO_44.out) (Kd.R_typed (by (with_reducible repeat (first | apply Kd.R_alloc | apply Kd.R_drewN | apply Kd.R_drew)); exact HO_8.out)) (by decide) hg); have n1_ := Aside0.mk (blk_grown (g := gb142) (o := .cells #[.int .i64 x143000_2, .int .i64 x143001_2] 34 (0, 0)) (by (with_reducible repeat (first | refine blk_drewN ?_ _ | refine blk_drew ?_ | refine blk_alloc ?_ _)); exact BK142.out) hg (Kd.R_away HO_8.out (fun _ hk => hk))); have n2_ := Aside0.mk (hb); have n3_ := Aside0.mk (ho); clear HO_44; clear BK142; clear HB; clear HO_8; have HO_44 := n0_; have BK142 := n1_; have HB := n2_; have HO149 := n3_; clear n0_ n1_ n2_ n3_; clear ho hb hg hat))
           go_ret
           exact ⟨_, by first | rfl | (simp [errW_none, errW_some] <;> rfl) | (simp [*, errW_none, errW_some] <;> rfl), by (with_reducible repeat (first | apply Kd.R_alloc | apply Kd.R_drewN | apply Kd.R_drew)); exact Kd.R_mono HO149.out (fun _ hk => trivial), by repeat (first | (with_reducible first | exact HB.out | apply below_alloc | apply pw_below_drewN | apply below_drew1 | refine below_set ?_ GE142.out) | exact HB.out)⟩
          ·rw [if_neg c46] at H
           exact absurd H (by simp)
   ·rw [if_neg c5] at H
    exact absurd H (by simp)
  ·rw [if_neg c4] at H
   exact absurd H (by simp)
end Go.Proofs.YtemhccjjcioodaaGreat.PClusterFinest
end
section
namespace Go.Proofs.YtemhccjjcioodaaGreat.CFin
open Go.RowKit Go.Proofs.YtemhccjjcioodaaGreatW.PrintWords Go.Proofs.YtemhccjjcioodaaGreatW.PrintMore Go.Proofs.YtemhccjjcioodaaGreatW.PrintLast Go.Proofs.YtemhccjjcioodaaGreat.U Go.Proofs.YtemhccjjcioodaaGreat.PClusterFinest Go.Proofs.YtemhccjjcioodaaGreat.UFinest Go.Proofs.YtemhccjjcioodaaGreat.UFinEv
attribute [local go_sem] max2_int min2_int max_two min_two
def covTo (m : Int) : List S33 → Int → Bool
 | [], e => decide (m ≤ e)
 | s :: r, e => if e < s.f0 then false else covTo m r (if e < s.f1 then s.f1 else e)
theorem covTo_eq (m : Nat) (d : List S33) : ∀ (e : Nat) (P : Nat → Prop) (hd : ∀ s ∈ d, 0 ≤ s.f0 ∧ s.f0 < s.f1 ∧ s.f1 ≤ m) (hs : d.Pairwise (fun a b => ¬ b.f0 < a.f0)) (h1 : ∀ i, i < e → P i) (h2 : ∀ i, P i → i < e ∨ ∃ s ∈ d, s.f0 ≤ i ∧ (i : Int) < s.f1) (h3 : ∀ s ∈ d, ∀ i : Nat, s.f0 ≤ i → (i : Int) < s.f1 → P i) , (covTo m d e = true ↔ ∀ i, i < m → P i) := by
 induction d with
 | nil =>
  intro e P hd hs h1 h2 h3
  unfold covTo
  rw [decide_eq_true_eq]
  constructor
  ·intro h i hi; exact h1 i (by omega)
  ·intro h
   apply Decidable.byContradiction
   intro hc
   rcases h2 e (h e (by omega)) with h | ⟨s, hs, _⟩
   ·omega
   ·cases hs
 | cons s r ih =>
  intro e P hd hs h1 h2 h3
  unfold covTo
  obtain ⟨d0, d1, d2⟩ := hd s List.mem_cons_self
  rw [List.pairwise_cons] at hs
  by_cases hlt : (e : Int) < s.f0
  ·rw [if_pos hlt]
   constructor
   ·intro h; cases h
   ·intro h
    exfalso
    rcases h2 e (h e (by omega)) with h | ⟨t, ht, ht1, ht2⟩
    ·omega
    ·rcases List.mem_cons.1 ht with rfl | ht
     ·omega
     ·have := hs.1 t ht; omega
  ·rw [if_neg hlt]
   have hE : ∃ e' : Nat, (if (e : Int) < s.f1 then s.f1 else (e : Int)) = (e' : Int) ∧ e ≤ e' ∧ s.f1 ≤ e' ∧ ((e' : Int) = e ∨ (e' : Int) = s.f1) := by
    by_cases h : (e : Int) < s.f1
    ·rw [if_pos h]; exact ⟨s.f1.toNat, by omega, by omega, by omega, by omega⟩
    ·rw [if_neg h]; exact ⟨e, rfl, by omega, by omega, by omega⟩
   obtain ⟨e', he, h4, h5, h6⟩ := hE
   rw [he]
   refine ih e' P (fun t ht => hd t (List.mem_cons_of_mem _ ht)) hs.2 (fun i hi => ?_) (fun i hi => ?_) (fun t ht => h3 t (List.mem_cons_of_mem _ ht))
   ·by_cases h : i < e
    ·exact h1 i h
    ·exact h3 s List.mem_cons_self i (by omega) (by omega)
   ·rcases h2 i hi with h | ⟨t, ht, ht1, ht2⟩
    ·exact .inl (by omega)
    ·rcases List.mem_cons.1 ht with rfl | ht
     ·exact .inl (by omega)
     ·exact .inr ⟨t, ht, ht1, ht2⟩
theorem cov_all (m : Nat) (l : List S45) (d : List S33) (hp : d.Perm (l.map (·.f1))) (hs : d.Pairwise (fun a b => ¬ b.f0 < a.f0)) (hd : ∀ x ∈ l, 0 ≤ x.f1.f0 ∧ x.f1.f0 < x.f1.f1 ∧ x.f1.f1 ≤ m) : covTo m d 0 = (List.range m).all (outB l) := by
 have hm : ∀ s, s ∈ d ↔ ∃ x ∈ l, x.f1 = s := fun s => by rw [hp.mem_iff, List.mem_map]
 have hP : ∀ i : Nat, outB l i = true ↔ ∃ x ∈ l, x.f1.f0 ≤ (i : Int) ∧ (i : Int) < x.f1.f1 := fun i => by
  unfold outB
  rw [List.any_eq_true]
  simp
 have := covTo_eq m d 0 (fun i => outB l i = true) (fun s hs => by obtain ⟨x, hx, rfl⟩ := (hm s).1 hs; exact hd x hx) hs (fun i h => absurd h (Nat.not_lt_zero i)) (fun i h => by
  obtain ⟨x, hx, h1, h2⟩ := (hP i).1 h
  exact .inr ⟨x.f1, (hm _).2 ⟨x, hx, rfl⟩, h1, h2⟩) (fun s hs i h1 h2 => by
  obtain ⟨x, hx, rfl⟩ := (hm s).1 hs
  exact (hP i).2 ⟨x, hx, h1, h2⟩)
 rw [Bool.eq_iff_iff]
 rw [List.all_eq_true]
 simp only [List.mem_range]
 exact this
theorem rd33 {xs : List S33} {k : Nat} (h : k < xs.length) : rd_T33 xs ((k : Nat) : Int) = xs[k] := by
 unfold rd_T33
 rw [Int.toNat_natCast, List.getD_eq_getElem?_getD, List.getElem?_eq_getElem h]; rfl
set_option maxRecDepth 100000 in
set_option maxHeartbeats 2000000 in
theorem covered_c {w : World} {v : Value} {l : List S45} (m : Nat) (h : SLk k45 w v l) (hl : l.length ≤ 1000000) (hd : ∀ x ∈ l, 0 ≤ x.f1.f0 ∧ x.f1.f0 < x.f1.f1 ∧ x.f1.f1 ≤ m) :
 Calls Tryz.prog 249 #[.int .i64 m, v] w fun e w' => e = .returned (.bool ((List.range m).all (outB l))) ∧ Below w.heap.size w w' := by
 have H := Aside0.mk h
 have HD := Aside0.mk hd
 have HL := Aside0.mk hl
 clear h hd
 go_enter Tryz.func249, Tryz.ntmps249
 go_wp2_with (first | (go_at_call 88; refine (sides_c H.out HL.out).mono ?_; rintro e w1 ⟨u1, u2, rfl, a1, a2, a3, a4⟩; have HR1 := Aside0.mk a2; have HB1 := Aside0.mk a4; clear a1 a2 a3 a4) | (go_at_call 276; refine (CSort.sort_c HR1.out (by rw [List.length_map]; exact HL.out)).mono ?_; rintro e w2 ⟨rfl, d, p1, p2, p3, p4⟩; have HP := Aside0.mk (cov_all m l d p1 p2 HD.out); have hdl := p1.length_eq; rw [List.length_map] at hdl; have HDL := Aside0.mk hdl; have HS := Aside0.mk p3; have HB2 : Aside0 (Below w.heap.size w w2) := ⟨HB1.out.grown p4 HB1.out.size (fun j hj => Kd.R_base HR1.out j hj)⟩; clear p1 p2 p3 p4 HR1 HB1 hdl; obtain ⟨A, c, rfl, _, hC⟩ := HS.out; have HC := Aside0.mk hC; clear hC HS))
 have hdm : d.length ≤ 1000000 := by rw [HDL.out]; exact hl
 have HTG : Aside0 (covTo m (d.drop 0) 0 = (List.range m).all (outB l)) := ⟨HP.out⟩
 go_loopw [7, 19] (fun v7 v wr => ∃ (k : Nat) (e : Int), v = .int .i64 (k : Int) ∧ v7 = .int .i64 e ∧ k ≤ d.length ∧ Aside0 (covTo m (d.drop k) e = (List.range m).all (outB l)) ∧ Aside0 (Kd.C k33 wr A d.length d) ∧ Aside0 (Below w.heap.size w wr)) (fun _ v _ => d.length - (intOf v).toNat)
 case atStart => exact ⟨0, 0, rfl, rfl, Nat.zero_le _, HTG, HC, HB2⟩
 case round =>
  clear HTG HC HB2
  obtain ⟨k, e, rfl, rfl, hk, HT, HC, HB⟩ := hrel
  by_cases hlt : k < d.length
  ·obtain ⟨ad, ead, c0, c1⟩ := at_T33 HC.out (k : Int) (by omega) (by omega)
   rw [rd33 hlt, Int.toNat_natCast] at c0 c1
   obtain ⟨x, hx⟩ : ∃ x, x = d[k] := ⟨_, rfl⟩
   rw [← hx] at c0 c1
   have hT := HT.out
   rw [List.drop_eq_getElem_cons hlt, ← hx, covTo] at hT
   have hkI : (k : Int) < (d.length : Int) := by omega
   have HEA := Aside0.mk ead
   subst ead
   clear hx HT
   by_cases hc : e < x.f0
   ·rw [if_pos hc] at hT
    have HTT := Aside0.mk hT; clear hT
    go_wp2_with (first | ((with_reducible refine gate_dst (N := 9) rfl ?_); refine box_event ?hg (N := 9) ?hd (cs := #[.int .i64 0, .int .i64 0]) (t := 34) ?hr ?_; (case hd => rfl); (case hg => rfl); (case hr => first | (go_simp; done) | (go_simp; rfl)); intro gb hg w6 hbox hb; have HX6 := Aside0.mk hbox; have HGE : Aside0 (w.heap.size ≤ gb) := ⟨by rw [hg]; exact HB.out.size⟩; have HB6 : Aside0 (Below w.heap.size w w6) := ⟨below_step HB.out hb⟩; have z0 : w6.cell? ⟨gb, 0, none⟩ = some (.int .i64 0) := (blk_cell hbox 0).trans rfl; have z1 : w6.cell? ⟨gb, 1, none⟩ = some (.int .i64 0) := (blk_cell hbox 1).trans rfl; have f0 := blk_frozen hbox 0; have f1 := blk_frozen hbox 1; clear hg hbox hb HB))
    go_ret
    exact ⟨by rw [← HTT.out]; rfl, (HB6.out.setCell (p := ⟨gb, 0, none⟩) HGE.out _).setCell (p := ⟨gb, 1, none⟩) HGE.out _⟩
   ·rw [if_neg hc] at hT
    obtain ⟨e2, he2⟩ : ∃ e2, e2 = if e < x.f1 then x.f1 else e := ⟨_, rfl⟩
    rw [← he2] at hT
    have HTT := Aside0.mk hT
    have HE2 := Aside0.mk he2
    clear hT he2
    go_wp2_with (first | ((with_reducible refine gate_dst (N := 9) rfl ?_); refine box_event ?hg (N := 9) ?hd (cs := #[.int .i64 0, .int .i64 0]) (t := 34) ?hr ?_; (case hd => rfl); (case hg => rfl); (case hr => first | (go_simp; done) | (go_simp; rfl)); intro gb hg w6 hbox hb; have HX6 := Aside0.mk hbox; have HGE : Aside0 (w.heap.size ≤ gb) := ⟨by rw [hg]; exact HB.out.size⟩; have HGW : Aside0 (gb = wr.heap.size) := ⟨hg⟩; have HB6 : Aside0 (Below w.heap.size w w6) := ⟨below_step HB.out hb⟩; have HB06 : Aside0 (Below wr.heap.size wr w6) := ⟨hb⟩; have z0 : w6.cell? ⟨gb, 0, none⟩ = some (.int .i64 0) := (blk_cell hbox 0).trans rfl; have z1 : w6.cell? ⟨gb, 1, none⟩ = some (.int .i64 0) := (blk_cell hbox 1).trans rfl; have f0 := blk_frozen hbox 0; have f1 := blk_frozen hbox 1; clear hg hbox hb HB))
    have HB8 : Below wr.heap.size wr ((w6.setCell ⟨gb, 0, none⟩ (.int .i64 x.f0)).setCell ⟨gb, 1, none⟩ (.int .i64 x.f1)) := (HB06.out.setCell (p := ⟨gb, 0, none⟩) (by rw [HGW.out]; exact Nat.le_refl _) _).setCell (p := ⟨gb, 1, none⟩) (by rw [HGW.out]; exact Nat.le_refl _) _
    exact ⟨⟨k + 1, e2, by go_num, by rw [HE2.out], by omega, HTT, ⟨Kd.C_below HC.out HB8⟩, ⟨(HB6.out.setCell (p := ⟨gb, 0, none⟩) HGE.out _).setCell (p := ⟨gb, 1, none⟩) HGE.out _⟩⟩, by simp [intOf]; omega⟩
  ·have ek : k = d.length := by omega
   subst ek
   have hT := HT.out
   rw [List.drop_length, covTo] at hT
   have HTT := Aside0.mk hT
   clear hT HT
   go_wp2_with fail
   go_ret
   exact ⟨by rw [← HTT.out]; rfl, HB.out⟩
theorem fits_f (lo hi n : Int) : cluster_fits.f lo hi n = some (fitB lo hi n) := by
 unfold cluster_fits.f span_Right.f fitB
 by_cases h1 : 0 ≤ lo <;> by_cases h2 : lo < hi <;> by_cases h3 : hi ≤ n <;> simp [h1, h2, h3]
set_option maxRecDepth 100000 in
set_option maxHeartbeats 2000000 in
theorem may_c {w : World} {v : Value} {l : List S45} (n m : Int) (h : SLk k45 w v l) (hl : l.length ≤ 1000000) :
 Calls Tryz.prog 188 #[.int .i64 n, .int .i64 m, v] w fun e w' => e = .returned (.int .i64 (wrongR n m l)) ∧ Below w.heap.size w w' := by
 obtain ⟨A, c, rfl, hcc, hC⟩ := h
 have HCC := Aside0.mk hcc
 have HC := Aside0.mk hC
 clear hC hcc
 go_enter Tryz.func188, Tryz.ntmps188
 by_cases h1 : n < 0
 ·have HE : Aside0 (wrongR n m l = 1) := ⟨by unfold wrongR; rw [if_pos (.inl h1)]⟩
  go_wp2_with fail
  go_ret
  exact ⟨by rw [HE.out]; rfl, Below.refl _ _⟩
 by_cases h2 : n > 16777216
 ·have HE : Aside0 (wrongR n m l = 1) := ⟨by unfold wrongR; rw [if_pos (.inr (.inl h2))]⟩
  go_wp2_with fail
  go_ret
  exact ⟨by rw [HE.out]; rfl, Below.refl _ _⟩
 by_cases h3 : m < 0
 ·have HE : Aside0 (wrongR n m l = 1) := ⟨by unfold wrongR; rw [if_pos (.inr (.inr (.inl h3)))]⟩
  go_wp2_with fail
  go_ret
  exact ⟨by rw [HE.out]; rfl, Below.refl _ _⟩
 by_cases h4 : m > 16777216
 ·have HE : Aside0 (wrongR n m l = 1) := ⟨by unfold wrongR; rw [if_pos (.inr (.inr (.inr h4)))]⟩
  go_wp2_with fail
  go_ret
  exact ⟨by rw [HE.out]; rfl, Below.refl _ _⟩
 have HE : Aside0 (wrongR n m l = if l.all (okB n m) then wrongIn n m l else 1) := ⟨by unfold wrongR; rw [if_neg (by omega)]⟩
 go_wp2_with fail
 go_loopw [25] (fun v wr => ∃ k : Nat, v = .int .i64 (k : Int) ∧ k ≤ l.length ∧ Aside0 (∀ x ∈ l.take k, okB n m x = true) ∧ Aside0 (Below w.heap.size w wr)) (fun v _ => l.length - (intOf v).toNat)
 case atStart => exact ⟨0, rfl, Nat.zero_le _, ⟨fun x hx => by simp at hx⟩, ⟨Below.refl _ _⟩⟩
 case round =>
  obtain ⟨k, rfl, hk, HA, HB⟩ := hrel
  by_cases hlt : k < l.length
  ·obtain ⟨ad, ead, c0, c1, c2, c3⟩ := at_T45 (Kd.C_below HC.out HB.out) (k : Int) (by omega) (by omega)
   rw [rd45 hlt, Int.toNat_natCast] at c0 c1 c2 c3
   obtain ⟨x, hx⟩ : ∃ x, x = l[k] := ⟨_, rfl⟩
   rw [← hx] at c0 c1 c2 c3
   have HXE := Aside0.mk hx
   have hkI : (k : Int) < (l.length : Int) := by omega
   subst ead
   have hxl : x ∈ l := by rw [hx]; exact List.getElem_mem hlt
   have HXL := Aside0.mk hxl
   clear hx hxl
   obtain ⟨b1, hb1⟩ : ∃ b1, fitB x.f0.f0 x.f0.f1 n = b1 := ⟨_, rfl⟩
   have HQ1 := Aside0.mk hb1
   obtain ⟨b2, hb2⟩ : ∃ b2, fitB x.f1.f0 x.f1.f1 m = b2 := ⟨_, rfl⟩
   have HQ2 := Aside0.mk hb2
   clear hb1 hb2
   go_upto_region 6 with (first | ((with_reducible refine gate_dst (N := 8) rfl ?_); refine box_event ?hg (N := 8) ?hd (cs := #[.int .i64 0, .int .i64 0, .int .i64 0, .int .i64 0]) (t := 36) ?hr ?_; (case hd => rfl); (case hg => rfl); (case hr => first | (go_simp; done) | (go_simp; rfl)); intro gb hg w6 hbox hb; have HGE : Aside0 (w.heap.size ≤ gb) := ⟨by rw [hg]; exact HB.out.size⟩; have HB6 : Aside0 (Below w.heap.size w w6) := ⟨below_step HB.out hb⟩; have z0 : w6.cell? ⟨gb, 0, none⟩ = some (.int .i64 0) := (blk_cell hbox 0).trans rfl; have z1 : w6.cell? ⟨gb, 1, none⟩ = some (.int .i64 0) := (blk_cell hbox 1).trans rfl; have z2 : w6.cell? ⟨gb, 2, none⟩ = some (.int .i64 0) := (blk_cell hbox 2).trans rfl; have z3 : w6.cell? ⟨gb, 3, none⟩ = some (.int .i64 0) := (blk_cell hbox 3).trans rfl; have f0 := blk_frozen hbox 0; have f1 := blk_frozen hbox 1; have f2 := blk_frozen hbox 2; have f3 := blk_frozen hbox 3; have HX6 := Aside0.mk hbox; clear hg hbox hb HB))
   have HX := Aside0.mk (blk_put (blk_put (blk_put (blk_put HX6.out 0 (.int .i64 x.f0.f0) rfl) 1 (.int .i64 x.f0.f1) rfl) 2 (.int .i64 x.f1.f0) rfl) 3 (.int .i64 x.f1.f1) rfl)
   have HB7 := Aside0.mk ((((HB6.out.setCell (p := ⟨gb, 0, none⟩) HGE.out (.int .i64 x.f0.f0)).setCell (p := ⟨gb, 1, none⟩) HGE.out (.int .i64 x.f0.f1)).setCell (p := ⟨gb, 2, none⟩) HGE.out (.int .i64 x.f1.f0)).setCell (p := ⟨gb, 3, none⟩) HGE.out (.int .i64 x.f1.f1))
   generalize (((w6.setCell ⟨gb, 0, none⟩ (.int .i64 x.f0.f0)).setCell ⟨gb, 1, none⟩ (.int .i64 x.f0.f1)).setCell ⟨gb, 2, none⟩ (.int .i64 x.f1.f0)).setCell ⟨gb, 3, none⟩ (.int .i64 x.f1.f1) = w7 at HX HB7 ⊢
   have q0 := (blk_cell HX.out 0).trans rfl
   have q1 := (blk_cell HX.out 1).trans rfl
   clear z0 z1 z2 z3 f0 f1 f2 f3 HX6 HB6 c0 c1 c2 c3
   have T1 : Aside0 True := ⟨trivial⟩
   cases b1 with
   | false =>
    have HR : Aside0 (wrongR n m l = 1) := ⟨by rw [HE.out, if_neg]; intro h; have := List.all_eq_true.1 h x HXL.out; unfold okB at this; rw [HQ1.out] at this; cases this⟩
    go_wp2_with (first | (go_at_call 248; have tk := T1.out; clear T1 tk; refine (cluster_fits.calls x.f0.f0 x.f0.f1 n _ _ (fits_f _ _ _)).mono ?_; rintro e w8 ⟨rfl, hb8⟩; rw [HQ1.out]; have HB8 := Aside0.mk hb8; have q2 := (blk_cell ((hb8.block _ (blk_lt HX.out)).trans HX.out) 2).trans rfl; have q3 := (blk_cell ((hb8.block _ (blk_lt HX.out)).trans HX.out) 3).trans rfl; clear hb8))
    go_ret
    exact ⟨by rw [HR.out]; rfl, below_step HB7.out HB8.out⟩
   | true =>
    cases b2 with
    | false =>
     have HR : Aside0 (wrongR n m l = 1) := ⟨by rw [HE.out, if_neg]; intro h; have := List.all_eq_true.1 h x HXL.out; unfold okB at this; rw [HQ2.out, Bool.and_false] at this; cases this⟩
     go_wp2_with (first | (go_at_call 248; have tk := T1.out; clear T1 tk; refine (cluster_fits.calls x.f0.f0 x.f0.f1 n _ _ (fits_f _ _ _)).mono ?_; rintro e w8 ⟨rfl, hb8⟩; rw [HQ1.out]; have HB8 := Aside0.mk hb8; have q2 := (blk_cell ((hb8.block _ (blk_lt HX.out)).trans HX.out) 2).trans rfl; have q3 := (blk_cell ((hb8.block _ (blk_lt HX.out)).trans HX.out) 3).trans rfl; clear hb8) | (go_at_call 248; refine (cluster_fits.calls x.f1.f0 x.f1.f1 m _ _ (fits_f _ _ _)).mono ?_; rintro e w9 ⟨rfl, hb9⟩; rw [HQ2.out]; have HB9 := Aside0.mk hb9; clear hb9))
     go_ret
     exact ⟨by rw [HR.out]; rfl, below_step (below_step HB7.out HB8.out) HB9.out⟩
    | true =>
     go_wp2_with (first | (go_at_call 248; have tk := T1.out; clear T1 tk; refine (cluster_fits.calls x.f0.f0 x.f0.f1 n _ _ (fits_f _ _ _)).mono ?_; rintro e w8 ⟨rfl, hb8⟩; rw [HQ1.out]; have HB8 := Aside0.mk hb8; have q2 := (blk_cell ((hb8.block _ (blk_lt HX.out)).trans HX.out) 2).trans rfl; have q3 := (blk_cell ((hb8.block _ (blk_lt HX.out)).trans HX.out) 3).trans rfl; clear hb8) | (go_at_call 248; refine (cluster_fits.calls x.f1.f0 x.f1.f1 m _ _ (fits_f _ _ _)).mono ?_; rintro e w9 ⟨rfl, hb9⟩; rw [HQ2.out]; have HB9 := Aside0.mk hb9; clear hb9))
     exact ⟨⟨k + 1, by go_num, by omega, ⟨fun y hy => by
      rw [List.take_succ_eq_append_getElem hlt, List.mem_append, List.mem_singleton] at hy
      rcases hy with hy | rfl
      ·exact HA.out y hy
      ·rw [← HXE.out]; unfold okB; rw [HQ1.out, HQ2.out]; rfl⟩, ⟨below_step (below_step HB7.out HB8.out) HB9.out⟩⟩, by simp [intOf]; omega⟩
  ·have ek : k = l.length := by omega
   subst ek
   have hall := HA.out
   rw [List.take_length] at hall
   have HW : Aside0 (wrongR n m l = wrongIn n m l) := ⟨by rw [HE.out, if_pos (List.all_eq_true.2 hall)]⟩
   have HALL := Aside0.mk hall
   clear hall HA
   obtain ⟨M, rfl⟩ : ∃ M : Nat, m = (M : Int) := ⟨m.toNat, by omega⟩
   have hd : ∀ x ∈ l, 0 ≤ x.f1.f0 ∧ x.f1.f0 < x.f1.f1 ∧ x.f1.f1 ≤ M := fun x hx => by
    have := HALL.out x hx
    unfold okB fitB at this
    simp only [Bool.and_eq_true, decide_eq_true_eq] at this
    exact ⟨this.2.1.1, this.2.1.2, this.2.2⟩
   have HD := Aside0.mk hd
   clear hd hlt
   by_cases c1 : (M : Int) = 0 ∧ n > 0
   ·obtain ⟨c2, c3⟩ := c1
    have HR : Aside0 (wrongR n M l = 8) := ⟨by rw [HW.out]; unfold wrongIn; rw [if_pos ⟨c2, c3⟩]⟩
    go_wp2_with fail
    go_ret
    exact ⟨by rw [HR.out]; rfl, HB.out⟩
   ·by_cases d1 : n = 0 ∧ (M : Int) > 0
    ·obtain ⟨d2, d3⟩ := d1
     have HR : Aside0 (wrongR n M l = 13) := ⟨by rw [HW.out]; unfold wrongIn; rw [if_neg c1, if_pos ⟨d2, d3⟩]⟩
     have d4 : ¬ (M : Int) = 0 := by omega
     clear c1
     go_wp2_with fail
     go_ret
     exact ⟨by rw [HR.out]; rfl, HB.out⟩
    ·have HWI : Aside0 (wrongIn n M l = if (List.range M).all (outB l) then 0 else 13) := ⟨by unfold wrongIn; rw [if_neg c1, if_neg d1, Int.toNat_natCast]⟩
     obtain ⟨b, hb⟩ : ∃ b, (List.range M).all (outB l) = b := ⟨_, rfl⟩
     have HBB := Aside0.mk hb; clear hb
     have HSL : Aside0 (SLk k45 wr (.slice A l.length c) l) := ⟨SLk.mk (Kd.C_below HC.out HB.out) HCC.out⟩
     have hcase : (¬ (M : Int) = 0 ∧ ¬ n = 0) ∨ ((M : Int) = 0 ∧ n = 0) := by omega
     clear c1 d1
     rcases hcase with ⟨k1, k2⟩ | ⟨k1, k2⟩
     ·cases b with
      | true =>
       have HR : Aside0 (wrongR n M l = 0) := ⟨by rw [HW.out, HWI.out, HBB.out]; rfl⟩
       go_wp2_with (first | (go_at_call 249; refine (covered_c M HSL.out hl HD.out).mono ?_; rintro e w2 ⟨rfl, hb2⟩; rw [HBB.out]; have HB2 := Aside0.mk hb2; clear hb2))
       go_ret
       exact ⟨by rw [HR.out]; rfl, below_step HB.out HB2.out⟩
      | false =>
       have HR : Aside0 (wrongR n M l = 13) := ⟨by rw [HW.out, HWI.out, HBB.out]; rfl⟩
       go_wp2_with (first | (go_at_call 249; refine (covered_c M HSL.out hl HD.out).mono ?_; rintro e w2 ⟨rfl, hb2⟩; rw [HBB.out]; have HB2 := Aside0.mk hb2; clear hb2))
       go_ret
       exact ⟨by rw [HR.out]; rfl, below_step HB.out HB2.out⟩
     ·obtain rfl : M = 0 := by omega
      subst k2
      have HR : Aside0 (wrongR 0 (0 : Nat) l = 0) := ⟨by rw [HW.out, HWI.out]; rfl⟩
      have hb0 : b = true := HBB.out.symm
      subst hb0
      go_wp2_with (first | (go_at_call 249; refine (covered_c 0 HSL.out hl HD.out).mono ?_; rintro e w2 ⟨rfl, hb2⟩; rw [HBB.out]; have HB2 := Aside0.mk hb2; clear hb2))
      go_ret
      exact ⟨by rw [HR.out]; rfl, below_step HB.out HB2.out⟩
end Go.Proofs.YtemhccjjcioodaaGreat.CFin
end
section
namespace Go.Proofs.YtemhccjjcioodaaGreat.UGroups
open Go.RowKit Go.Proofs.YtemhccjjcioodaaGreatW.PrintWords Go.Proofs.YtemhccjjcioodaaGreatW.PrintMore Go.Proofs.YtemhccjjcioodaaGreatW.PrintLast Go.Proofs.YtemhccjjcioodaaGreat.U Go.Proofs.YtemhccjjcioodaaGreat.PClusterFinest Go.Proofs.YtemhccjjcioodaaGreat.UFinEv Go.Proofs.YtemhccjjcioodaaGreat.CFin
theorem rd_is (l : List Int) (t : Nat) : rd l (t : Int) = l.getD t 0 := by unfold rd; rw [Int.toNat_natCast]
theorem mx_max (a b : Int) : mx a b = max a b := by unfold mx; split <;> omega
theorem grp_end (N : Nat) (J : List S33) (h : 1 ≤ N) : groups N J = (grpTo N J (N - 1)).1 ++ [⟨((grpTo N J (N - 1)).2 : Int), (N : Int)⟩] := by
 unfold groups
 conv => lhs; rw [show N = (N - 1) + 1 by omega]
 rw [show grpTo (N - 1 + 1) J (N - 1 + 1) = stepG (N - 1 + 1) J (N - 1 + 1) (grpTo (N - 1 + 1) J (N - 1)) from rfl]
 rw [show N - 1 + 1 = N by omega]
 unfold stepG
 rw [if_pos (.inl rfl)]
theorem grp_l1 (N : Nat) (J : List S33) (l : List Int) (hl : Reach N J l) (hN : N ≤ 1000000) (d : Nat) : ∀ (t : Nat) (h : Int), t + d = N → 1 ≤ t → IsH N J t h → Ev (fun k => span_Groups.l1 k (grpTo N J (t - 1)).1 l (N : Int) (t : Int) ((grpTo N J (t - 1)).2 : Int) h) (groups N J) := by
 have hll := hl.1
 induction d with
 | zero =>
  intro t h hd h1 hh
  obtain rfl : t = N := by omega
  have := grp_len t J (t - 1)
  refine Ev.step (fun k => by rw [span_Groups.l1]) (ev_neg (by omega) (ev_pos (by omega) ?_))
  rw [grp_end t J h1, ← isH_last hh]
  exact ev_now _
 | succ d ih =>
  intro t h hd h1 hh
  have hlen := grp_len N J (t - 1)
  have hr := hl.2 t (by omega)
  have hs := isH_step hh hr
  have e1 : ((t + 1 : Nat) - 1) = t := by omega
  have hst : grpTo N J t = stepG N J t (grpTo N J (t - 1)) := by
   conv => lhs; rw [show t = (t - 1) + 1 by omega]
   rw [show grpTo N J (t - 1 + 1) = stepG N J (t - 1 + 1) (grpTo N J (t - 1)) from rfl, show t - 1 + 1 = t by omega]
  have hge := hh.ge
  refine Ev.step (fun k => by rw [span_Groups.l1]) (ev_pos (by omega) (ev_pos (by omega) (ev_pos (by omega) ?_)))
  have hI := ih (t + 1) _ (by omega) (by omega) hs
  rw [e1, hst] at hI
  by_cases hc : (t : Int) = h
  ·have hb : acrossB N J t = false := (isH_end hh).1 hc.symm
   refine ev_pos hc (ev_pos (by omega) ?_)
   unfold stepG at hI
   rw [if_pos (.inr hb)] at hI
   rw [w64 (by omega) (by omega), rd_is, mx_max, show (t : Int) + 1 = ((t + 1 : Nat) : Int) by omega]
   rw [show max (max h ((t : Int) + 1)) (l.getD t 0) = max (((t + 1 : Nat)) : Int) (l.getD t 0) by omega] at hI
   rw [← hc]
   exact hI
  ·have hb : ¬ (t = N ∨ acrossB N J t = false) := fun hx => by
    rcases hx with hx | hx
    ·omega
    ·exact hc ((isH_end hh).2 hx).symm
   refine ev_neg hc ?_
   unfold stepG at hI
   rw [if_neg hb] at hI
   rw [w64 (by omega) (by omega), rd_is, mx_max, show (t : Int) + 1 = ((t + 1 : Nat) : Int) by omega]
   rw [show max (max h ((t : Int) + 1)) (l.getD t 0) = max h (l.getD t 0) by omega] at hI
   exact hI
theorem right_is3 (a b : Int) : span_Right.f a b = some (decide (0 ≤ a ∧ a < b)) := by
 unfold span_Right.f
 by_cases h1 : 0 ≤ a <;> by_cases h2 : a < b <;> simp [h1, h2]
theorem grp_l0 (N : Nat) (J : List S33) (h1 : 1 ≤ N) (hN : N ≤ 1000000) (hJ : J.length ≤ 1000000) (d : Nat) : ∀ (i : Nat) (l : List Int), i + d = J.length → Reach N (J.take i) l → Ev (fun k => span_Groups.l0 k (N : Int) l J (J.length : Int) (i : Int)) (groups N J) := by
 induction d with
 | zero =>
  intro i l hd hl
  rw [List.take_of_length_le (by omega)] at hl
  have hll := hl.1
  refine Ev.step (fun k => by rw [span_Groups.l0]) (ev_neg (by omega) ?_)
  have h0 := isH_one (hl.2 0 (by omega))
  have hI := grp_l1 N J l hl hN (N - 1) 1 _ (by omega) (Nat.le_refl _) h0
  rw [hll]
  refine Ev.step (fun k => by rw [span_Groups.l1]) (ev_pos (by omega) (ev_pos (by omega) (ev_pos (by omega) (ev_neg (by omega) ?_))))
  rw [show rd l 0 = l.getD 0 0 from rfl, mx_max, show wrap64 (0 + 1) = ((1 : Nat) : Int) by rw [w64 (by omega) (by omega)]; rfl]
  exact hI
 | succ d ih =>
  intro i l hd hl
  have hlt : i < J.length := by omega
  have hll := hl.1
  have htk : J.take (i + 1) = J.take i ++ [J[i]] := by rw [List.take_succ_eq_append_getElem hlt]
  refine Ev.step (fun k => by rw [span_Groups.l0]) (ev_pos (by omega) (ev_pos (by omega) (ev_pos (by omega) ?_)))
  rw [rd33 hlt, right_is3, w64 (by omega) (by omega), show (i : Int) + 1 = ((i + 1 : Nat) : Int) by omega]
  by_cases hr : 0 ≤ J[i].f0 ∧ J[i].f0 < J[i].f1
  ·rw [decide_eq_true hr]
   refine ev_bindc rfl (ev_pos rfl ?_)
   by_cases hh : J[i].f1 ≤ (N : Int)
   ·have hok : OkS N J[i] := ⟨hr.1, hr.2, hh⟩
    refine ev_pos hh (ev_pos hr.1 (ev_pos (by omega) ?_))
    refine ih (i + 1) _ (by omega) ?_
    rw [htk]
    have := reach_yes hl hok
    rw [show rd l J[i].f0 = l.getD J[i].f0.toNat 0 from rfl, mx_max]
    exact this
   ·refine ev_neg hh (ih (i + 1) _ (by omega) ?_)
    rw [htk]
    exact reach_no hl (fun h => hh h.2.2)
  ·rw [decide_eq_false hr]
   refine ev_bindc rfl (ev_neg (by decide) (ih (i + 1) _ (by omega) ?_))
   rw [htk]
   exact reach_no hl (fun h => hr ⟨h.1, h.2.1⟩)
theorem groups_c (N : Nat) (hN : N ≤ 1000000) {w : World} {v : Value} {J : List S33} (h : SLk k33 w v J) (hJ : J.length ≤ 1000000) : Calls Tryz.prog 118 #[.int .i64 N, v] w fun e w' => ∃ u, e = .returned u ∧ Kd.R k33 34 w' w.heap.size (fun _ => True) u (groups N J) ∧ Below w.heap.size w w' := by
 obtain ⟨A, c, rfl, hc, hC⟩ := h
 have he : Ev (fun k => span_Groups.f k (N : Int) J) (groups N J) := by
  unfold span_Groups.f
  by_cases h0 : N = 0
  ·subst h0
   exact ev_pos (by decide) (ev_now _)
  ·refine ev_neg (by omega) (ev_pos (by omega) (ev_pos (by omega) ?_))
   rw [Int.toNat_natCast]
   exact grp_l0 N J (by omega) hN hJ J.length 0 _ (by omega) (by rw [List.take_zero]; exact reach_zero N)
 obtain ⟨k, hk⟩ := ev_some he
 refine (span_Groups.calls k N A c J _ w hC hc hk).mono ?_
 rintro e w' ⟨u, rfl, hu, hb⟩
 exact ⟨u, rfl, hu, hb⟩
end Go.Proofs.YtemhccjjcioodaaGreat.UGroups
end
section
namespace Go.Proofs.YtemhccjjcioodaaGreat.Cel
open Go.RowKit Go.Proofs.YtemhccjjcioodaaGreatW.PrintWords Go.Proofs.YtemhccjjcioodaaGreatW.PrintMore Go.Proofs.YtemhccjjcioodaaGreatW.PrintLast Go.Proofs.YtemhccjjcioodaaGreat.U Go.Proofs.YtemhccjjcioodaaGreat.PClusterFinest Go.Proofs.YtemhccjjcioodaaGreat.UGroups Go.Proofs.YtemhccjjcioodaaGreat.UFinEv
open Go.Proofs.YtemhccjjcioodaaGreat.CFin (rd33 info33 cells33 one33)
def rowOf (L : List (List Int)) (lo hi : Nat) : List (List Int) := (L.drop lo).take (hi - lo)
def linkStep (L : List (List Int)) (q : List S45 × Nat) (g : S33) : List S45 × Nat :=
 let e := q.2 + (rowOf L g.f0.toNat g.f1.toNat).flatten.length
 (if q.2 < e then q.1 ++ [⟨g, ⟨(q.2 : Int), (e : Int)⟩⟩] else q.1, e)
def linksOf (L : List (List Int)) (gs : List S33) : List S45 × Nat := gs.foldl (linkStep L) ([], 0)
theorem linksOf_take (L : List (List Int)) {gs : List S33} {k : Nat} (h : k < gs.length) : linksOf L (gs.take (k + 1)) = linkStep L (linksOf L (gs.take k)) gs[k] := by
 unfold linksOf
 rw [List.take_succ_eq_append_getElem h, List.foldl_append]
 rfl
theorem rowOf_le (L : List (List Int)) (lo hi : Nat) : (rowOf L lo hi).flatten.length ≤ L.flatten.length := by
 unfold rowOf
 have h1 : ∀ (l : List (List Int)) (k : Nat), (l.drop k).flatten.length ≤ l.flatten.length := fun l k => by
  conv => rhs; rw [← List.take_append_drop k l, List.flatten_append, List.length_append]
  omega
 exact Nat.le_trans (flat_le _ _) (h1 _ _)
theorem linksOf_le (L : List (List Int)) (gs : List S33) (k : Nat) (hk : k ≤ gs.length) : (linksOf L (gs.take k)).2 ≤ k * L.flatten.length ∧ (linksOf L (gs.take k)).1.length ≤ k := by
 induction k with
 | zero => exact ⟨Nat.zero_le _, Nat.le_refl _⟩
 | succ k ih =>
  obtain ⟨h1, h2⟩ := ih (by omega)
  rw [linksOf_take L (by omega)]
  unfold linkStep
  have := rowOf_le L (gs[k]'(by omega)).f0.toNat (gs[k]'(by omega)).f1.toNat
  refine ⟨by rw [Nat.add_mul, Nat.one_mul]; dsimp only; omega, ?_⟩
  dsimp only
  split
  ·rw [List.length_append]; simp; exact h2
  ·omega
theorem grp_mem (N : Nat) (J : List S33) (t : Nat) (ht : t ≤ N) : ∀ s ∈ (grpTo N J t).1, 0 ≤ s.f0 ∧ s.f0 < s.f1 ∧ s.f1 ≤ (N : Int) := by
 induction t with
 | zero => intro s hs; cases hs
 | succ t ih =>
  intro s hs
  rw [show grpTo N J (t + 1) = UGroups.stepG N J (t + 1) (grpTo N J t) from rfl] at hs
  unfold UGroups.stepG at hs
  split at hs
  ·rcases List.mem_append.1 hs with hs | hs
   ·exact ih (by omega) s hs
   ·rw [List.mem_singleton] at hs
    subst hs
    have := grp_lo N J t (by omega)
    dsimp only
    omega
  ·exact ih (by omega) s hs
theorem apart33 {w : World} {base base2 : Nat} {ok : Nat → Prop} {v : Value} {xs : List S45} (h : Kd.R k45 36 w base ok v xs) {p : Nat} {P : Prop} (hp : P ∧ base2 ≤ p ∧ p < w.heap.size ∧ ∃ q, q ∈ 34 :: (k33).E ∧ ∃ cells, w.heap[p]? = some (.cells cells q (0, 0))) : some p ≠ v.ownBlock := by
 obtain ⟨_, _, _, q, hq, cells, hc⟩ := hp
 have hE : (k33).E = [] := rfl
 rw [hE, List.mem_singleton] at hq
 subst hq
 exact Kd.R_ne h hc (by decide)
set_option maxRecDepth 100000 in
set_option maxHeartbeats 8000000 in
theorem clusters_c {w : World} {D : Nat → Prop} {b : Nat} {L : List (List Int)} {J : List S33} (h : CellsAt 100 w D b L J) (hN : L.length ≤ 1000000) (hJ : J.length ≤ 1000000) (hF : L.flatten.length ≤ 10000000) (R : Value → Int → World → Prop)
 (hfin : ∀ w1 u, SLk k45 w1 u (linksOf L (groups L.length J)).1 → Below w.heap.size w w1 → Calls Tryz.prog 120 #[.int .i64 L.length, .int .i64 (linksOf L (groups L.length J)).2, u] w1 fun e w' => ∃ u r, e = .returned (.tuple #[u, .int .i64 r]) ∧ R u r w' ∧ Below w1.heap.size w1 w') :
 Calls Tryz.prog 61 #[ptr b] w fun e w' => ∃ u r, e = .returned (.tuple #[u, .int .i64 r]) ∧ R u r w' ∧ Below w.heap.size w w' := by
 obtain ⟨Dr, Dt, A, c, vt, hp⟩ := h.open_
 obtain ⟨At, ct, evt⟩ := Kd.R_slice hp.h3
 subst evt
 obtain ⟨i31, hi31, hs31⟩ : ∃ i, Tryz.prog.info? 22 = some i ∧ i.size = 1 := by
  have h := info31
  cases hi : Tryz.prog.info? 22 with
  | none => rw [hi] at h; cases h
  | some i =>
   rw [hi] at h
   simp only [Option.map_some, Option.some.injEq, Prod.mk.injEq] at h
   exact ⟨i, rfl, h.2.1⟩
 have HI31 := Aside0.mk hi31
 have HS31 := Aside0.mk hs31
 have c0 := (blk_cell hp.h1 0).trans rfl
 have c1 := (blk_cell hp.h1 1).trans rfl
 have HP := Aside0.mk hp
 have HRD := Aside0.mk (hp.h2.reads 3)
 have HSJ := Aside0.mk (SLk.of_R hp.h3)
 have HN := Aside0.mk hN
 have HJ := Aside0.mk hJ
 have HF := Aside0.mk hF
 have HFIN := Aside0.mk hfin
 obtain ⟨gs, hgs⟩ : ∃ gs, gs = groups L.length J := ⟨_, rfl⟩
 have HGS := Aside0.mk hgs
 have HGM : Aside0 (∀ s ∈ gs, 0 ≤ s.f0 ∧ s.f0 < s.f1 ∧ s.f1 ≤ (L.length : Int)) := ⟨by rw [hgs]; exact grp_mem L.length J L.length (Nat.le_refl _)⟩
 have HGL : Aside0 (gs.length ≤ L.length) := ⟨by rw [hgs]; exact grp_len L.length J L.length⟩
 rw [← hgs] at HFIN
 clear h hp hN hJ hF hfin hi31 hs31 hgs
 go_enter Tryz.func61, Tryz.ntmps61
 go_upto_region 5 with (fail)
 have HBD : Aside0 (Below w.heap.size w w.drew) := ⟨below_drew (Below.refl _ _)⟩
 refine start_ (n := 12) (S := (fun W => Below w.heap.size w W)) (ds := []) #[false, false, false, false, false, false, false, false, false, false, false, false] (by kernel_rfl) (by kernel_rfl) (by rfl) HBD.out (fun hS0 => ?_)
 refine pure_ (i := 0) (N := (some 13)) (v := ?_) (a' := ?_) #[true, false, false, false, false, false, false, false, false, false, false, false] rfl rfl (by kernel_rfl) (fun _ _ _ h => h) (Or.inl ⟨by rfl, ?_⟩) ?_ ?_
 rotate_left
 ·intro w'
  go_simp
  with_reducible rfl
 rotate_left
 ·simp only [Act.put, List.setIfInBounds_toArray, List.set_cons_zero, List.set_cons_succ]
  rfl
 refine pure_ (i := 1) (N := (some 14)) (v := ?_) (a' := ?_) #[true, true, false, false, false, false, false, false, false, false, false, false] rfl rfl (by kernel_rfl) (fun _ _ _ h => h) (Or.inl ⟨by rfl, ?_⟩) ?_ ?_
 rotate_left
 ·intro w'
  go_simp
  with_reducible rfl
 rotate_left
 ·simp only [Act.put, List.setIfInBounds_toArray, List.set_cons_zero, List.set_cons_succ]
  rfl
 refine pure_ (i := 2) (N := (some 15)) (v := ?_) (a' := ?_) #[true, true, true, false, false, false, false, false, false, false, false, false] rfl rfl (by kernel_rfl) (fun _ _ _ h => h) (Or.inl ⟨by rfl, ?_⟩) ?_ ?_
 rotate_left
 ·intro w'
  go_simp
  with_reducible rfl
 rotate_left
 ·simp only [Act.put, List.setIfInBounds_toArray, List.set_cons_zero, List.set_cons_succ]
  rfl
 refine take_ (i := 3) (N := (some 16)) (v := ?_) (a' := ?_) #[true, true, true, true, false, false, false, false, false, false, false, false] rfl rfl (by kernel_rfl) (fun _ _ _ h => h) (Or.inl ⟨by rfl, ?_⟩) hS0 ?_ ?_
 rotate_left
 ·intro w' s0
  have hx0 := (s0.cell (World.block_lt_of_cell? _ _ c0)).trans c0
  go_simp
  with_reducible rfl
 rotate_left
 ·simp only [Act.put, List.setIfInBounds_toArray, List.set_cons_zero, List.set_cons_succ]
  rfl
 refine pure_ (i := 4) (N := (some 17)) (v := ?_) (a' := ?_) #[true, true, true, true, true, false, false, false, false, false, false, false] rfl rfl (by kernel_rfl) (fun _ _ _ h => h) (Or.inl ⟨by rfl, ?_⟩) ?_ ?_
 rotate_left
 ·intro w'
  go_simp
  with_reducible rfl
 rotate_left
 ·simp only [Act.put, List.setIfInBounds_toArray, List.set_cons_zero, List.set_cons_succ]
  rfl
 refine pure_ (i := 5) (N := (some 18)) (v := ?_) (a' := ?_) #[true, true, true, true, true, true, false, false, false, false, false, false] rfl rfl (by kernel_rfl) (fun _ _ _ h => h) (Or.inl ⟨by rfl, ?_⟩) ?_ ?_
 rotate_left
 ·intro w'
  go_simp
  with_reducible rfl
 rotate_left
 ·simp only [Act.put, List.setIfInBounds_toArray, List.set_cons_zero, List.set_cons_succ]
  rfl
 refine pure_ (i := 6) (N := (some 19)) (v := ?_) (a' := ?_) #[true, true, true, true, true, true, true, false, false, false, false, false] rfl rfl (by kernel_rfl) (fun _ _ _ h => h) (Or.inl ⟨by rfl, ?_⟩) ?_ ?_
 rotate_left
 ·intro w'
  go_simp
  with_reducible rfl
 rotate_left
 ·simp only [Act.put, List.setIfInBounds_toArray, List.set_cons_zero, List.set_cons_succ]
  rfl
 refine pure_ (i := 7) (N := (some 20)) (v := ?_) (a' := ?_) #[true, true, true, true, true, true, true, true, false, false, false, false] rfl rfl (by kernel_rfl) (fun _ _ _ h => h) (Or.inl ⟨by rfl, ?_⟩) ?_ ?_
 rotate_left
 ·intro w'
  go_simp
  with_reducible rfl
 rotate_left
 ·simp only [Act.put, List.setIfInBounds_toArray, List.set_cons_zero, List.set_cons_succ]
  rfl
 refine take_ (i := 8) (N := (some 21)) (v := ?_) (a' := ?_) #[true, true, true, true, true, true, true, true, true, false, false, false] rfl rfl (by kernel_rfl) (fun _ _ _ h => h) (Or.inl ⟨by rfl, ?_⟩) hS0 ?_ ?_
 rotate_left
 ·intro w' s0
  have hx0 := (s0.cell (World.block_lt_of_cell? _ _ c1)).trans c1
  go_simp
  with_reducible rfl
 rotate_left
 ·simp only [Act.put, List.setIfInBounds_toArray, List.set_cons_zero, List.set_cons_succ]
  rfl
 refine pure_ (i := 11) (N := (some 24)) (v := ?_) (a' := ?_) #[true, true, true, true, true, true, true, true, true, false, false, true] rfl rfl (by kernel_rfl) (fun _ _ _ h => h) (Or.inl ⟨by rfl, ?_⟩) ?_ ?_
 rotate_left
 ·intro w'
  go_simp
  with_reducible rfl
 rotate_left
 ·simp only [Act.put, List.setIfInBounds_toArray, List.set_cons_zero, List.set_cons_succ]
  rfl
 clear hS0
 refine one_ (i := 9) (N := (some 22)) #[true, true, true, true, true, true, true, true, true, true, false, true] rfl rfl (by kernel_rfl) (by decide) (fun K hK => ?_)
 refine goes_ Tryz.func118 (by kernel_rfl) rfl #[.int .i64 L.length, .slice At J.length ct] (by rfl) rfl rfl (by go_simp; done) ?_
 refine (groups_c L.length HN.out (SLk.below HSJ.out HBD.out) HJ.out).mono ?_
 rintro e w2 ⟨u, rfl, hR, hb2⟩
 rw [← HGS.out] at hR
 obtain ⟨A2, c2, eu⟩ := Kd.R_slice hR
 subst eu
 refine ⟨_, rfl, ?_⟩
 have HG2 := Aside0.mk (Kd.R_lower hR (Nat.zero_le _))
 have HB2 : Aside0 (Below w.heap.size w w2) := ⟨below_step HBD.out hb2⟩
 clear hR hb2
 change K (Act.put _ (some 22) _) _
 refine hK.out _ _ HB2.out (fun hS0 => ?_)
 clear hK
 refine norm_ (a' := ?_) ?_ ?_
 rotate_left
 ·simp only [Act.put, List.setIfInBounds_toArray, List.set_cons_zero, List.set_cons_succ]
  rfl
 refine pure_ (i := 10) (N := (some 23)) (v := ?_) (a' := ?_) #[true, true, true, true, true, true, true, true, true, true, true, true] rfl rfl (by kernel_rfl) (fun _ _ _ h => h) (Or.inl ⟨by rfl, ?_⟩) ?_ ?_
 rotate_left
 ·intro w'
  go_simp
  with_reducible rfl
 rotate_left
 ·simp only [Act.put, List.setIfInBounds_toArray, List.set_cons_zero, List.set_cons_succ]
  rfl
 refine done_ (by kernel_rfl) ?_
 clear hS0 HBD
 go_wp2
 go_loopw [4, 5, 24] (fun v4 v5 v wr => ∃ k : Nat, v = .int .i64 (k : Int) ∧ k ≤ gs.length ∧ v5 = .int .i64 ((linksOf L (gs.take k)).2 : Nat) ∧ Aside0 (Kd.R k45 36 wr w.heap.size (fun _ => True) v4 (linksOf L (gs.take k)).1) ∧ Aside0 (Kd.R k33 34 wr 0 (fun _ => True) (.slice A2 gs.length c2) gs) ∧ Aside0 (Below w.heap.size w wr)) (fun _ _ v _ => gs.length - (intOf v).toNat)
 case atStart => exact ⟨0, rfl, Nat.zero_le _, rfl, ⟨Kd.R_nil _ _ _ _ _⟩, HG2, HB2⟩
 case round =>
  clear HG2 HB2
  obtain ⟨wo, ewo⟩ : ∃ wo, wo = wr := ⟨_, rfl⟩
  subst ewo
  obtain ⟨k, rfl, hk, rfl, HR, HG, HB⟩ := hrel
  by_cases hlt : k < gs.length
  ·obtain ⟨x, hx⟩ : ∃ x, x = gs[k] := ⟨_, rfl⟩
   have hxm := HGM.out x (by rw [hx]; exact List.getElem_mem hlt)
   obtain ⟨lo, hlo⟩ : ∃ lo : Nat, x.f0 = (lo : Int) := ⟨x.f0.toNat, by omega⟩
   obtain ⟨hi, hhi⟩ : ∃ hi : Nat, x.f1 = (hi : Int) := ⟨x.f1.toNat, by omega⟩
   obtain ⟨ad, ead, y0, y1⟩ := at_T33 (Kd.R_reads' HG.out).2.2 (k : Int) (by omega) (by omega)
   rw [rd33 hlt, Int.toNat_natCast, ← hx, hlo] at y0
   rw [rd33 hlt, Int.toNat_natCast, ← hx, hhi] at y1
   have hxe : x = ⟨(lo : Int), (hi : Int)⟩ := by rw [← hlo, ← hhi]
   obtain ⟨q, hq⟩ : ∃ q, q = linksOf L (gs.take k) := ⟨_, rfl⟩
   have HNX : Aside0 (linksOf L (gs.take (k + 1)) = linkStep L q ⟨(lo : Int), (hi : Int)⟩) := ⟨by rw [linksOf_take L hlt, ← hx, hxe, ← hq]⟩
   have hle := linksOf_le L gs k (by omega)
   rw [← hq] at hle HR ⊢
   have hF := HF.out
   have hNN := HN.out
   have hGL := HGL.out
   have hmul : k * L.flatten.length ≤ 1000000 * 10000000 := Nat.mul_le_mul (by omega) hF
   have HQ2 : Aside0 (q.2 ≤ 10000000000000) := ⟨by omega⟩
   have HQ1 : Aside0 (q.1.length ≤ 1000000) := ⟨by omega⟩
   obtain ⟨e0, he0⟩ : ∃ e0, e0 = q.2 := ⟨_, rfl⟩
   have HE0 := Aside0.mk he0
   rw [← he0] at HQ2 ⊢
   obtain ⟨AL, cL, eL⟩ := Kd.R_slice HR.out
   subst eL
   have hloI : (lo : Int) < (hi : Int) := by omega
   have hhiI : (hi : Int) ≤ (L.length : Int) := by omega
   have HLH : Aside0 (lo < hi ∧ hi ≤ L.length) := ⟨by omega, by omega⟩
   have hkI : (k : Int) < (gs.length : Int) := by omega
   have hk8 : (k : Int) ≤ 1000000 := by omega
   subst ead
   clear hx hxm hlo hhi hxe hq hle hF hNN hGL hmul he0
   go_upto_region 8 with (first | ((with_reducible refine gate_dst (N := 7) rfl ?_); refine box_event ?hg (N := 7) ?hd (cs := #[.int .i64 0, .int .i64 0]) (t := 34) ?hr ?_; (case hd => rfl); (case hg => rfl); (case hr => first | (go_simp; done) | (go_simp; rfl)); intro gb hg w6 hbox hb; have HXgb := Aside0.mk hbox; have HGEgb : Aside0 (w.heap.size ≤ gb) := ⟨by rw [hg]; exact HB.out.size⟩; have HBBgb : Aside0 (Below w.heap.size w w6) := ⟨below_step HB.out hb⟩; have zgb_0 : w6.cell? ⟨gb, 0, none⟩ = some (.int .i64 0) := (blk_cell hbox 0).trans rfl; have fgb_0 := blk_frozen hbox 0; have zgb_1 : w6.cell? ⟨gb, 1, none⟩ = some (.int .i64 0) := (blk_cell hbox 1).trans rfl; have fgb_1 := blk_frozen hbox 1; have HR6 : Aside0 (Kd.R k45 36 w6 w.heap.size (fun p => p ≠ gb) (.slice AL q.1.length cL) q.1) := ⟨Kd.R_mono (Kd.R_below (Kd.R_bound HR.out) hb) (fun p hp => by omega)⟩; have HG6 : Aside0 (Kd.R k33 34 w6 0 (fun p => p ≠ gb) (.slice (some ad) gs.length c2) gs) := ⟨Kd.R_mono (Kd.R_below (Kd.R_bound HG.out) hb) (fun p hp => by omega)⟩; clear hg hbox hb HB HR HG))
   have HYgb := Aside0.mk (blk_put (blk_put HXgb.out 0 (.int .i64 lo) rfl) 1 (.int .i64 hi) rfl)
   have HGgb := Aside0.mk (World.grownBy.trans (grown_set w6 gb 0 (.int .i64 lo)) (grown_set _ gb 1 (.int .i64 hi)))
   generalize (w6.setCell ⟨gb, 0, none⟩ (.int .i64 lo)).setCell ⟨gb, 1, none⟩ (.int .i64 hi) = w7 at HYgb HGgb ⊢
   have HBCgb : Aside0 (Below w.heap.size w w7) := ⟨HBBgb.out.grown HGgb.out HBBgb.out.size (fun j hj => by obtain rfl := Option.some.inj hj; exact HGEgb.out)⟩
   have qgb_0 := (blk_cell HYgb.out 0).trans rfl
   have qgb_1 := (blk_cell HYgb.out 1).trans rfl
   clear zgb_0 fgb_0 zgb_1 fgb_1 HXgb HBBgb
   have HR7 : Aside0 (Kd.R k45 36 w7 w.heap.size (fun p => p ≠ gb) (.slice AL q.1.length cL) q.1) := ⟨Kd.R_grown HR6.out HGgb.out (fun p hp e => hp (Option.some.inj e))⟩
   have HG7 : Aside0 (Kd.R k33 34 w7 0 (fun p => p ≠ gb) (.slice (some ad) gs.length c2) gs) := ⟨Kd.R_grown HG6.out HGgb.out (fun p hp e => hp (Option.some.inj e))⟩
   clear HR6 y0 y1 HGgb HG6 qgb_0 qgb_1
   go_upto_region 9 with (first | ((with_reducible refine gate_dst (N := 8) rfl ?_); refine box_event ?hg (N := 8) ?hd (cs := #[.int .i64 0, .int .i64 0]) (t := 34) ?hr ?_; (case hd => rfl); (case hg => rfl); (case hr => first | (go_simp; done) | (go_simp; rfl)); intro gc hg w8 hbox hb; have HXgc := Aside0.mk hbox; have HGEgc : Aside0 (w.heap.size ≤ gc) := ⟨by rw [hg]; exact HBCgb.out.size⟩; have HBBgc : Aside0 (Below w.heap.size w w8) := ⟨below_step HBCgb.out hb⟩; have zgc_0 : w8.cell? ⟨gc, 0, none⟩ = some (.int .i64 0) := (blk_cell hbox 0).trans rfl; have fgc_0 := blk_frozen hbox 0; have zgc_1 : w8.cell? ⟨gc, 1, none⟩ = some (.int .i64 0) := (blk_cell hbox 1).trans rfl; have fgc_1 := blk_frozen hbox 1; have HR8 : Aside0 (Kd.R k45 36 w8 w.heap.size (fun p => p ≠ gb ∧ p ≠ gc) (.slice AL q.1.length cL) q.1) := ⟨Kd.R_mono (Kd.R_below (Kd.R_bound HR7.out) hb) (fun p hp => ⟨hp.1, by omega⟩)⟩; have HX8 : Aside0 (w8.heap[gb]? = some (.cells #[.int .i64 lo, .int .i64 hi] 34 (0, 0))) := ⟨(hb.block _ (blk_lt HYgb.out)).trans HYgb.out⟩; have HNE : Aside0 (gb ≠ gc) := ⟨by have := blk_lt HYgb.out; omega⟩; have HG8 : Aside0 (Kd.R k33 34 w8 0 (fun p => p ≠ gb ∧ p ≠ gc) (.slice (some ad) gs.length c2) gs) := ⟨Kd.R_mono (Kd.R_below (Kd.R_bound HG7.out) hb) (fun p hp => ⟨hp.1, by omega⟩)⟩; have HGO2 : Aside0 (w.heap.size ≤ gc) := ⟨by rw [hg]; exact HBCgb.out.size⟩; clear hg hbox hb HBCgb HR7 HG7))
   have HYgc := Aside0.mk (blk_put (blk_put HXgc.out 0 (.int .i64 e0) rfl) 1 (.int .i64 0) rfl)
   have HGgc := Aside0.mk (World.grownBy.trans (grown_set w8 gc 0 (.int .i64 e0)) (grown_set _ gc 1 (.int .i64 0)))
   generalize (w8.setCell ⟨gc, 0, none⟩ (.int .i64 e0)).setCell ⟨gc, 1, none⟩ (.int .i64 0) = w9 at HYgc HGgc ⊢
   have HBCgc : Aside0 (Below w.heap.size w w9) := ⟨HBBgc.out.grown HGgc.out HBBgc.out.size (fun j hj => by obtain rfl := Option.some.inj hj; exact HGEgc.out)⟩
   have qgc_0 := (blk_cell HYgc.out 0).trans rfl
   have qgc_1 := (blk_cell HYgc.out 1).trans rfl
   clear zgc_0 fgc_0 zgc_1 fgc_1 HXgc HBBgc
   have HR9 : Aside0 (Kd.R k45 36 w9 w.heap.size (fun p => p ≠ gb ∧ p ≠ gc) (.slice AL q.1.length cL) q.1) := ⟨Kd.R_grown HR8.out HGgc.out (fun p hp e => hp.2 (Option.some.inj e))⟩
   have HX9 : Aside0 (w9.heap[gb]? = some (.cells #[.int .i64 lo, .int .i64 hi] 34 (0, 0))) := ⟨(HGgc.out.block gb (blk_lt HX8.out) (fun e => HNE.out (Option.some.inj e))).trans HX8.out⟩
   have HG9 : Aside0 (Kd.R k33 34 w9 0 (fun p => p ≠ gb ∧ p ≠ gc) (.slice (some ad) gs.length c2) gs) := ⟨Kd.R_grown HG8.out HGgc.out (fun p hp e => hp.2 (Option.some.inj e))⟩
   have p0 := (blk_cell HX9.out 0).trans rfl
   have p1 := (blk_cell HX9.out 1).trans rfl
   have r0 := (HBCgc.out.cell (World.block_lt_of_cell? _ _ c0)).trans c0
   have hca : L.length ≤ c := by
    obtain ⟨A', c', e', h1, h2⟩ := HRD.out
    injection e' with e1 e2 e3
    omega
   have hcut := cut_mid (P := Tryz.prog) 97 22 .i64 .i64 Tryz.underlying97 HI31.out 1 HS31.out A L.length c (lo : Int) (hi : Int) (by omega) (by omega) (by omega) hca
   rw [Int.toNat_natCast, Int.toNat_natCast, Nat.mul_one] at hcut
   have HSUB0 : Kd.C (Kd.slice 3 (Kd.int .i64)) w (if c = lo then A else A.map (·.add lo)) (hi - lo) (rowOf L lo hi) := by
    have hd := Kd.C_drop (m := lo) (c := c) (k := Kd.slice 3 (Kd.int .i64)) (by obtain ⟨A', c', e', h1, h2⟩ := HRD.out; injection e' with e1 e2 e3; subst e1; exact h2) (by have := HLH.out; omega) hca
    rw [show (Kd.slice 3 (Kd.int .i64)).sz = 1 from rfl, Nat.mul_one] at hd
    have ht := Kd.C_take (m := hi - lo) hd (by rw [List.length_drop]; have := HLH.out; omega)
    unfold rowOf
    rwa [show ((L.drop lo).take (hi - lo)).length = hi - lo by rw [List.length_take, List.length_drop]; have := HLH.out; omega] at ht
   have hrl : (rowOf L lo hi).length = hi - lo := by have := HSUB0.1; omega
   generalize (if c = lo then A else A.map (·.add lo)) = A3 at hcut HSUB0
   have HSUB := Aside0.mk HSUB0
   have HRL := Aside0.mk hrl
   have HFS : Aside0 ((rowOf L lo hi).flatten.length ≤ 10000000) := ⟨Nat.le_trans (rowOf_le L lo hi) HF.out⟩
   obtain ⟨rs, hrs⟩ : ∃ rs, rs = rowOf L lo hi := ⟨_, rfl⟩
   have HRS := Aside0.mk hrs
   rw [← hrs] at HSUB HRL HFS
   clear hca HSUB0 hrl hrs HR8 HX8 HG8 HGgc qgc_0 qgc_1
   go_quiet (fail)
   go_wp2
   obtain ⟨wq, hwq⟩ : ∃ W, W = w9.drewN nq := ⟨_, rfl⟩
   have HBq : Aside0 (Below w9.heap.size w9 wq) := ⟨by rw [hwq]; exact pw_below_drewN (Below.refl _ _) _⟩
   rw [← hwq]
   have HRq : Aside0 (Kd.R k45 36 wq w.heap.size (fun p => p ≠ gb ∧ p ≠ gc) (.slice AL q.1.length cL) q.1) := ⟨Kd.R_below HR9.out HBq.out⟩
   have HBwq : Aside0 (Below w.heap.size w wq) := ⟨below_step HBCgc.out HBq.out⟩
   have HGq : Aside0 (Kd.R k33 34 wq 0 (fun p => p ≠ gb ∧ p ≠ gc) (.slice (some ad) gs.length c2) gs) := ⟨Kd.R_below HG9.out HBq.out⟩
   have HXq : Aside0 (wq.heap[gb]? = some (.cells #[.int .i64 lo, .int .i64 hi] 34 (0, 0))) := ⟨(HBq.out.block _ (blk_lt HX9.out)).trans HX9.out⟩
   have HYq : Aside0 (wq.heap[gc]? = some (.cells #[.int .i64 e0, .int .i64 0] 34 (0, 0))) := ⟨(HBq.out.block _ (blk_lt HYgc.out)).trans HYgc.out⟩
   clear hwq HR9 HBCgc HG9 HX9 HYgc p0 p1 r0 hcut HBq
   have hsub : ((hi - lo : Nat) : Int) = (rs.length : Int) := by rw [HRL.out]
   rw [← HRL.out]
   clear hsub
   go_loopw [5, 40] (fun v5 v wr => ∃ j : Nat, v = .int .i64 (j : Int) ∧ j ≤ rs.length ∧ v5 = .int .i64 ((e0 + (rs.take j).flatten.length : Nat) : Int) ∧ wr = wq) (fun _ v _ => rs.length - (intOf v).toNat)
   case atStart => exact ⟨0, rfl, Nat.zero_le _, by simp, rfl⟩
   case round =>
    obtain ⟨j, rfl, hj, rfl, ewr⟩ := hrel
    subst ewr
    by_cases hlj : j < rs.length
    ·obtain ⟨y, hy⟩ : ∃ y, y = rs[j] := ⟨_, rfl⟩
     obtain ⟨ae, cs, eae, _, hK, hcell⟩ := Kd.C_get (Kd.C_below HSUB.out HBwq.out) [] (j : Int) (by omega) (by have := HRL.out; omega)
     rw [Int.toNat_natCast, show rs.getD j [] = y by rw [hy, List.getD_eq_getElem?_getD, List.getElem?_eq_getElem hlj]; rfl] at hK
     obtain ⟨A', c', rfl, hc', hC'⟩ := hK
     have z0 := hcell 0 _ rfl
     rw [Int.toNat_natCast, show (Kd.slice 3 (Kd.int .i64)).sz = 1 from rfl, Nat.add_zero, Nat.mul_one] at z0
     have HNJ : Aside0 ((rs.take (j + 1)).flatten.length = (rs.take j).flatten.length + y.length) := ⟨by rw [flat_take hlj, List.length_append, hy]⟩
     have HLE : Aside0 ((rs.take (j + 1)).flatten.length ≤ 10000000) := ⟨Nat.le_trans (flat_le rs (j + 1)) HFS.out⟩
     obtain ⟨s, hs⟩ : ∃ s, s = (rs.take j).flatten.length := ⟨_, rfl⟩
     rw [← hs] at HNJ ⊢
     have hsl : s + y.length ≤ 10000000 := by rw [← HNJ.out]; exact HLE.out
     have hq2 := HQ2.out
     have ew : IntKind.i64.wrap ((e0 : Int) + (s : Int) + (y.length : Int)) = (e0 : Int) + (s : Int) + (y.length : Int) := IntWalk.i64_in _ (by omega)
     have hes : ((e0 + s : Nat) : Int) = (e0 : Int) + (s : Int) := by omega
     rw [hes]
     clear hes
     have hjI : (j : Int) < (rs.length : Int) := by omega
     have hj8 : (j : Int) ≤ 1000000 := by have := HRL.out; have := HLH.out; have := HN.out; omega
     subst eae
     clear hy hcell hC' hc' hs hsl hq2
     go_wp2
     exact ⟨⟨j + 1, by go_num, by omega, by rw [HNJ.out, show ((e0 + (s + y.length) : Nat) : Int) = (e0 : Int) + (s : Int) + (y.length : Int) by omega], by first | trivial | rfl⟩, by simp [intOf]; omega⟩
    ·obtain rfl : j = rs.length := by omega
     rw [List.take_length]
     obtain ⟨e1, he1⟩ : ∃ e1, e1 = e0 + rs.flatten.length := ⟨_, rfl⟩
     rw [← he1]
     have HE1 := Aside0.mk he1
     have y0 := (blk_cell HYq.out 0).trans rfl
     have y1 := (blk_cell HYq.out 1).trans rfl
     have f1 := blk_frozen HYq.out 1
     have HSTEP : Aside0 (linksOf L (gs.take (k + 1)) = (if e0 < e1 then q.1 ++ [⟨⟨(lo : Int), (hi : Int)⟩, ⟨(e0 : Int), (e1 : Int)⟩⟩] else q.1, e1)) := ⟨by
      rw [HNX.out]
      unfold linkStep
      dsimp only
      rw [Int.toNat_natCast, Int.toNat_natCast, ← HRS.out, ← HE0.out, ← he1]⟩
     clear hlj he1
     go_upto_region 15 with (fail)
     obtain ⟨wz, hwz⟩ : ∃ W, W = wr.setCell ⟨gc, 1, none⟩ (.int .i64 e1) := ⟨_, rfl⟩
     have hgz := grown_set wr gc 1 (.int .i64 e1)
     rw [← hwz] at hgz ⊢
     have HYz : Aside0 (wz.heap[gc]? = some (.cells #[.int .i64 e0, .int .i64 e1] 34 (0, 0))) := ⟨by rw [hwz]; exact blk_put HYq.out 1 (.int .i64 e1) rfl⟩
     have HXz : Aside0 (wz.heap[gb]? = some (.cells #[.int .i64 lo, .int .i64 hi] 34 (0, 0))) := ⟨(hgz.block gb (blk_lt HXq.out) (fun e => HNE.out (Option.some.inj e))).trans HXq.out⟩
     have HRz : Aside0 (Kd.R k45 36 wz w.heap.size (fun p => p ≠ gb ∧ p ≠ gc) (.slice AL q.1.length cL) q.1) := ⟨Kd.R_grown HRq.out hgz (fun p hp e => hp.2 (Option.some.inj e))⟩
     have HBz : Aside0 (Below w.heap.size w wz) := ⟨HBwq.out.grown hgz HBwq.out.size (fun j hj => by obtain rfl := Option.some.inj hj; exact HGO2.out)⟩
     have HGz : Aside0 (Kd.R k33 34 wz 0 (fun p => p ≠ gb ∧ p ≠ gc) (.slice (some ad) gs.length c2) gs) := ⟨Kd.R_grown HGq.out hgz (fun p hp e => hp.2 (Option.some.inj e))⟩
     clear hwz hgz y0 y1 f1 HYq HXq HRq HBwq HGq
     have s0 := (blk_cell HYz.out 0).trans rfl
     have s1 := (blk_cell HYz.out 1).trans rfl
     obtain ⟨rb, hrb⟩ : ∃ rb, rb = decide (0 ≤ (e0 : Int) ∧ (e0 : Int) < (e1 : Int)) := ⟨_, rfl⟩
     have HRB := Aside0.mk hrb; clear hrb
     cases rb with
     | false =>
      have HNL : Aside0 (¬ e0 < e1) := ⟨by have := of_decide_eq_false HRB.out.symm; omega⟩
      go_wp2_with (go_at_call 119; refine (span_Right.calls (e0 : Int) (e1 : Int) _ _ (right_is3 e0 e1)).mono ?_; rintro e w10 ⟨rfl, hb10⟩; rw [← HRB.out]; have HR10 := Aside0.mk (Kd.R_below HRz.out hb10); have HB10 : Aside0 (Below w.heap.size w w10) := ⟨below_step HBz.out hb10⟩; have HG10 := Aside0.mk (Kd.R_below HGz.out hb10); clear hb10)
      exact ⟨⟨k + 1, by go_num, by omega, by rw [HSTEP.out], ⟨by rw [HSTEP.out, if_neg HNL.out]; exact Kd.R_mono HR10.out (fun _ _ => trivial)⟩, ⟨Kd.R_mono HG10.out (fun _ _ => trivial)⟩, HB10⟩, by simp [intOf]; omega⟩
     | true =>
      have HNL : Aside0 (e0 < e1) := ⟨by have := of_decide_eq_true HRB.out.symm; omega⟩
      go_upto_region 16 with (go_at_call 119; refine (span_Right.calls (e0 : Int) (e1 : Int) _ _ (right_is3 e0 e1)).mono ?_; rintro e w10 ⟨rfl, hb10⟩; rw [← HRB.out]; have HR10 := Aside0.mk (Kd.R_below HRz.out hb10); have HB10 : Aside0 (Below w.heap.size w w10) := ⟨below_step HBz.out hb10⟩; have HG10 := Aside0.mk (Kd.R_below HGz.out hb10); have HX10 : Aside0 (w10.heap[gb]? = some (.cells #[.int .i64 lo, .int .i64 hi] 34 (0, 0))) := ⟨(hb10.block _ (blk_lt HXz.out)).trans HXz.out⟩; have HY10 : Aside0 (w10.heap[gc]? = some (.cells #[.int .i64 e0, .int .i64 e1] 34 (0, 0))) := ⟨(hb10.block _ (blk_lt HYz.out)).trans HYz.out⟩; have t0 := (blk_cell HX10.out 0).trans rfl; have t1 := (blk_cell HX10.out 1).trans rfl; have t2 := (blk_cell HY10.out 0).trans rfl; have t3 := (blk_cell HY10.out 1).trans rfl; clear hb10)
      clear s0 s1
      go_wp2_with ((with_reducible refine gate_builtin (b := .append) (xs := #[.tmp 53, .tmp 57]) rfl ?_); at_builtin; refine Kd.R_append k45 (w0 := w) w.heap.size rfl (.tmp 53) (.tmp 57) 26 36 (.agg #[(.int .i64 0), (.int .i64 0), (.int .i64 0), (.int .i64 0)]) 32 rfl Tryz.underlying26 info45 rfl (by decide) (by omega) _ q.1 (⟨⟨(lo : Int), (hi : Int)⟩, ⟨(e0 : Int), (e1 : Int)⟩⟩ : S45) [.int .i64 lo, .int .i64 hi, .int .i64 e0, .int .i64 e1] (fun _ => True) (fun _ => False) rfl (by first | (go_simp; done) | (go_simp; rfl)) (k45_mkM _ _ _ (⟨⟨(lo : Int), (hi : Int)⟩, ⟨(e0 : Int), (e1 : Int)⟩⟩ : S45)) (fun _ h => h.elim) (fun _ _ => trivial) (Kd.R_mono HR10.out (fun _ _ => trivial)) HB10.out HB10.out.size (by have := HQ1.out; omega) ?_; intro v11 w11 hv hb hg hat; have HR11 := Aside0.mk hv; have HB11 := Aside0.mk hb; have HG11 : Aside0 (Kd.R k33 34 w11 0 (fun _ => True) (.slice (some ad) gs.length c2) gs) := ⟨Kd.R_mono (Kd.R_grown (Kd.R_bound HG10.out) hg (fun p hp => apart33 HR10.out hp)) (fun _ _ => trivial)⟩; clear hv hb hg hat)
      exact ⟨⟨k + 1, by go_num, by omega, by rw [HSTEP.out], ⟨by rw [HSTEP.out, if_pos HNL.out]; exact HR11.out⟩, HG11, HB11⟩, by simp [intOf]; omega⟩
  ·obtain rfl : k = gs.length := by omega
   rw [List.take_length] at HR ⊢
   clear hlt
   have r0 := (HB.out.cell (World.block_lt_of_cell? _ _ c0)).trans c0
   have HS := Aside0.mk (SLk.of_R HR.out)
   go_wp2_with (go_at_call 120; refine (HFIN.out _ _ HS.out HB.out).mono ?_; rintro e w12 ⟨u, r, rfl, hR, hb12⟩; have HRR := Aside0.mk hR; have HB12 : Aside0 (Below w.heap.size w w12) := ⟨below_step HB.out hb12⟩; clear hR hb12)
   refine bodyPost_ret (results_tmp2 rfl _ _ _) rfl ?_
   exact ⟨_, _, rfl, HRR.out, HB12.out⟩
end Go.Proofs.YtemhccjjcioodaaGreat.Cel
end
