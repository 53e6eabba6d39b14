/- Cut. -/
import Derived.Test.YtemhccjjcioodaaGreatKUFinest
import Derived.Test.YtemhccjjcioodaaGreatKAl
set_option linter.unusedSimpArgs false
set_option linter.unusedVariables false
set_option maxRecDepth 100000
set_option maxHeartbeats 16000000
namespace Go.Proofs.YtemhccjjcioodaaGreat
open Go.RowKit YtemhccjjcioodaaGreatW.PrintLast YtemhccjjcioodaaGreatW.PrintMore YtemhccjjcioodaaGreatW.PrintWords
namespace PClusterFinest

attribute [local go_sem] max2_int min2_int max_two min_two max_three min_three max_four min_four
attribute [local go_sem high] eqA45
mutual
def naskhref04_wrong.j0 : Nat → Int → Int → List (S45) → Bool → Option (Int)
 | 0, _, _, _, _ => none
 | k + 1, x0, x1, x2, x25 => if x25 = true then (some 1) else (if 0 ≤ x1 then (if (x1 : Int).toNat ≤ 281474976710656 then (naskhref04_wrong.l0 k x0 x1 x2 (List.replicate (x1 : Int).toNat false) 0) else (none)) else (none))
def naskhref04_wrong.l0 : Nat → Int → Int → List (S45) → List Bool → Int → Option (Int)
 | 0, _, _, _, _, _ => none
 | k + 1, x0, x1, x2, x7, x8 => if x8 < (x2.length : Int) then (if 0 ≤ x8 then ((naskhref03_Right.f ((rd_T45 x2 x8).f0.f0) ((rd_T45 x2 x8).f0.f1)).bind fun t153 => (if t153 = true then ((naskhref03_Right.f ((rd_T45 x2 x8).f1.f0) ((rd_T45 x2 x8).f1.f1)).bind fun t154 => (if t154 = true then (if ((rd_T45 x2 x8).f0.f1) > x0 then (naskhref04_wrong.j2 k x0 x1 x2 x7 x8 true ((rd_T45 x2 x8).f0.f0) ((rd_T45 x2 x8).f0.f1) ((rd_T45 x2 x8).f1.f0) ((rd_T45 x2 x8).f1.f1)) else (naskhref04_wrong.j2 k x0 x1 x2 x7 x8 (decide (((rd_T45 x2 x8).f1.f1) > x1)) ((rd_T45 x2 x8).f0.f0) ((rd_T45 x2 x8).f0.f1) ((rd_T45 x2 x8).f1.f0) ((rd_T45 x2 x8).f1.f1))) else (naskhref04_wrong.j2 k x0 x1 x2 x7 x8 true ((rd_T45 x2 x8).f0.f0) ((rd_T45 x2 x8).f0.f1) ((rd_T45 x2 x8).f1.f0) ((rd_T45 x2 x8).f1.f1)))) else (naskhref04_wrong.j2 k x0 x1 x2 x7 x8 true ((rd_T45 x2 x8).f0.f0) ((rd_T45 x2 x8).f0.f1) ((rd_T45 x2 x8).f1.f0) ((rd_T45 x2 x8).f1.f1)))) else (none)) else (if x1 = 0 then (naskhref04_wrong.j4 k x0 x1 x7 (decide (x0 > 0))) else (naskhref04_wrong.j4 k x0 x1 x7 false))
def naskhref04_wrong.j2 : Nat → Int → Int → List (S45) → List Bool → Int → Bool → Int → Int → Int → Int → Option (Int)
 | 0, _, _, _, _, _, _, _, _, _, _ => none
 | k + 1, x0, x1, x2, x7, x8, x61, x153000, x153001, x153002, x153003 => if x61 = true then (some 1) else (naskhref04_wrong.l1 k x0 x1 x2 x7 x8 x153002 x153000 x153001 x153002 x153003)
def naskhref04_wrong.l1 : Nat → Int → Int → List (S45) → List Bool → Int → Int → Int → Int → Int → Int → Option (Int)
 | 0, _, _, _, _, _, _, _, _, _, _ => none
 | k + 1, x0, x1, x2, x7, x8, x10, x153000, x153001, x153002, x153003 => if x10 < x153003 then (if 0 ≤ x10 then (if x10 < (x7.length : Int) then (naskhref04_wrong.l1 k x0 x1 x2 (x7.set (x10 : Int).toNat true) x8 (wrap64 (x10 + 1)) x153000 x153001 x153002 x153003) else (none)) else (none)) else (naskhref04_wrong.l0 k x0 x1 x2 x7 (wrap64 (x8 + 1)))
def naskhref04_wrong.j4 : Nat → Int → Int → List Bool → Bool → Option (Int)
 | 0, _, _, _, _ => none
 | k + 1, x0, x1, x7, x80 => if x80 = true then (some 8) else (if x0 = 0 then (naskhref04_wrong.j5 k x1 x7 (decide (x1 > 0))) else (naskhref04_wrong.j5 k x1 x7 false))
def naskhref04_wrong.j5 : Nat → Int → List Bool → Bool → Option (Int)
 | 0, _, _, _ => none
 | k + 1, x1, x7, x86 => if x86 = true then (some 13) else (naskhref04_wrong.l2 k x1 x7 0)
def naskhref04_wrong.l2 : Nat → Int → List Bool → Int → Option (Int)
 | 0, _, _, _ => none
 | k + 1, x1, x7, x11 => if x11 < x1 then (if 0 ≤ x11 then (if x11 < (x7.length : Int) then (if rdOf false x7 x11 = true then (naskhref04_wrong.l2 k x1 x7 (wrap64 (x11 + 1))) else (some 13)) else (none)) else (none)) else (some 0)
end
def naskhref04_wrong.f (k : Nat) (a0 : Int) (a1 : Int) (l2 : List (S45)) : Option (Int) := if a0 < 0 then (naskhref04_wrong.j0 k a0 a1 l2 true) else (if a0 > 16777216 then (naskhref04_wrong.j0 k a0 a1 l2 true) else (if a1 < 0 then (naskhref04_wrong.j0 k a0 a1 l2 true) else (naskhref04_wrong.j0 k a0 a1 l2 (decide (a1 > 16777216)))))
theorem naskhref04_wrong.calls (k : Nat) (a0 : Int) (a1 : Int) (A2 : Option Addr) (c2 : Nat) (l2 : List (S45)) (r : Int) (w : World) (hr2 : Kd.C k45 w A2 l2.length l2) (hc2 : l2.length ≤ c2) (h : naskhref04_wrong.f k a0 a1 l2 = some r) :
 Calls Tryz.prog 195 #[.int .i64 a0, .int .i64 a1, .slice A2 l2.length c2] w fun e w' => e = .returned (.int .i64 r) ∧ Below w.heap.size w w' := by
 have hu45 := Tryz.underlying36
 have hu33 := Tryz.underlying34
 have HR2 := aMk hr2
 have HC2 := aMk hc2
 clear hr2 hc2
 have HB := aMk (qBr w.heap.size w)
 have H : (if a0 < 0 then (naskhref04_wrong.j0 k a0 a1 l2 true) else (if a0 > 16777216 then (naskhref04_wrong.j0 k a0 a1 l2 true) else (if a1 < 0 then (naskhref04_wrong.j0 k a0 a1 l2 true) else (naskhref04_wrong.j0 k a0 a1 l2 (decide (a1 > 16777216)))))) = some r := h
 clear h
 have HC4 := aMk H; clear H
 go_enter Tryz.func195, Tryz.ntmps195
 go_upto_region 1 with (fail)
 go_cut [25] (fun v25 wc => ∃ (kq : Nat) (x25_3 : Bool), v25 = .bool x25_3 ∧ Aside0 (naskhref04_wrong.j0 kq a0 a1 l2 x25_3 = some r) ∧ Aside0 (kq ≤ k) ∧ Aside0 (Below w.heap.size w wc))
 case first =>
  have H := HC4.out
  clear HC4
  by_cases c5 : a0 < 0
  ·rw [if_pos c5] at H
   have c5b0 := qdT c5
   clear c5
   (first | rw [c5b0] | (simp only [i64_w, i32_w]; rw [c5b0]) | skip)
   have H' := aMk H
   clear H
   go_wp2
   go_meet
   case rel => exact ⟨_, (true), rfl, H', ⟨by first | omega | exact qlR _⟩, ⟨by repeat (first | (with_reducible first | exact HB.out | apply qbA | apply qbN | apply qb1) | exact HB.out)⟩⟩
  ·rw [if_neg c5] at H
   have c5b0 := qdF c5
   clear c5
   (first | rw [c5b0] | (simp only [i64_w, i32_w]; rw [c5b0]) | skip)
   by_cases c6 : a0 > 16777216
   ·rw [if_pos c6] at H
    have c6b0 := qdT c6
    clear c6
    have H' := aMk H
    clear H
    go_wp2
    go_meet
    case rel => exact ⟨_, (true), rfl, H', ⟨by first | omega | exact qlR _⟩, ⟨by repeat (first | (with_reducible first | exact HB.out | apply qbA | apply qbN | apply qb1) | exact HB.out)⟩⟩
   ·rw [if_neg c6] at H
    have c6b0 := qdF c6
    clear c6
    by_cases c7 : a1 < 0
    ·rw [if_pos c7] at H
     have c7b0 := qdT c7
     clear c7
     have H' := aMk H
     clear H
     go_wp2
     go_meet
     case rel => exact ⟨_, (true), rfl, H', ⟨by first | omega | exact qlR _⟩, ⟨by repeat (first | (with_reducible first | exact HB.out | apply qbA | apply qbN | apply qb1) | exact HB.out)⟩⟩
    ·rw [if_neg c7] at H
     have c7b0 := qdF c7
     clear c7
     have H' := aMk H
     clear H
     go_wp2
     go_meet
     case rel => exact ⟨_, (decide (a1 > 16777216)), rfl, H', ⟨by first | omega | exact qlR _⟩, ⟨by repeat (first | (with_reducible first | exact HB.out | apply qbA | apply qbN | apply qb1) | exact HB.out)⟩⟩
 case rest =>
  clear HC4
  obtain ⟨kq, x25_3, rfl, HA, HJ3, HB⟩ := hcut
  cases kq with
  | zero => exact absurd HA.out (by simp [naskhref04_wrong.j0])
  | succ kj3 =>
   have H := HA.out
   clear HA
   simp only [naskhref04_wrong.j0] at H
   by_cases c8 : x25_3 = true
   ·subst c8
    rw [if_pos rfl] at H
    obtain rfl := qoI H
    go_wp2
    go_ret
    exact ⟨rfl, by repeat (first | (with_reducible first | exact HB.out | apply qbA | apply qbN | apply qb1) | exact HB.out)⟩
   ·replace c8 := qbE.mpr c8
    subst c8
    rw [if_neg (show ¬ (false = true) by decide)] at H
    by_cases c9 : 0 ≤ a1
    ·rw [if_pos c9] at H
     have c9b0 := eq_true c9
     have c9b1 : decide (0 ≤ a1) = true := qdT c9
     clear c9
     by_cases c10 : (a1 : Int).toNat ≤ 281474976710656
     ·rw [if_pos c10] at H
      have c10b0 := eq_true c10
      have c10b1 : decide ((a1 : Int).toNat ≤ 281474976710656) = true := qdT c10
      clear c10
      obtain ⟨y148, hy148⟩ : ∃ y_ : List Bool, y_ = (List.replicate (a1 : Int).toNat false) := ⟨_, rfl⟩
      replace H : (naskhref04_wrong.l0 kj3 a0 a1 l2 y148 0) = some r := by first | (rw [hy148]; with_reducible exact H) | (have H2_ := (qoS _ _).symm.trans H; rw [hy148]; with_reducible exact H2_) | (have H2_ := (qoS _ _).symm.trans H; with_reducible exact H2_) | with_reducible exact H | (rw [hy148]; exact H) | exact H
      have Ny148 := aMk hy148; clear hy148
      have H' := aMk H
      clear H
      go_wp2_with (first | ((with_reducible refine gate_dst (N := 27) rfl ?_); refine Kd.R_make Kd.bool _ 4 rfl (N := 27) rfl 41 _ _ rfl a1 rfl rfl Tryz.underlying41 (.bool false) 1 info4 rfl (by decide) (by omega) false (ok := fun _ => True) (okp := fun _ => True) rfl (fun _ hk => hk) trivial (qoD (by assumption)) (qlT (Nat.mul_le_mul_right _ (qoD (by assumption) : a1.toNat ≤ 281474976710656)) (by omega)) (qBr _ _) (qlR _) ?_; intro v149 w11 ho12 hb hg_ hnew_; clear hg_ hnew_; (first | rw [← Ny148.out] at ho12 | (simp only [Int.reduceToNat] at ho12; rw [← Ny148.out] at ho12)); have n0_ := aMk (Kd.R_lower ho12 (qbZ HB.out)); have n1_ := aMk (qbP HB.out hb); clear HB; have HO150 := n0_; have HB := n1_; clear n0_ n1_; clear hb ho12))
      go_loopg [8] kj3 (fun kq v8 w' => ∃ (x7_2 : List Bool) (x8_2 : Int), v8 = .int .i64 x8_2 ∧ Aside0 (naskhref04_wrong.l0 kq a0 a1 l2 x7_2 x8_2 = some r) ∧ Aside0 (kq ≤ kj3) ∧ Aside0 (Kd.R Kd.bool 4 w' w.heap.size (fun _ => True) v149 x7_2) ∧ Aside0 (Below w.heap.size w w'))
      case atStart => exact ⟨(y148), (0), rfl, H', ⟨qlR _⟩, ⟨by (with_reducible repeat (first | apply qrA | apply qrN | apply qrD)); exact HO150.out⟩, ⟨by repeat (first | (with_reducible first | exact HB.out | apply qbA | apply qbN | apply qb1) | exact HB.out)⟩⟩
      case round =>
       clear H'
       obtain ⟨x7_2, x8_2, rfl, HA, HK2, HO_7, HB⟩ := hrel
       cases gk with
       | zero => exact absurd HA.out (by simp [naskhref04_wrong.l0])
       | succ k2 =>
        have H := HA.out
        clear HA
        simp only [naskhref04_wrong.l0] at H
        by_cases c13 : x8_2 < (l2.length : Int)
        ·rw [if_pos c13] at H
         have c13b0 := qdT c13
         clear c13
         by_cases c14 : 0 ≤ x8_2
         ·rw [if_pos c14] at H
          have c14b0 := qdT c14
          clear c14
          have HC15 := aMk H; clear H
          have p151 : 0 ≤ (x8_2 : Int) := qoD (by assumption)
          have q151 : x8_2 < (l2.length : Int) := qoD (by assumption)
          obtain ⟨ad151, e151, hx151_0, hx151_1, hx151_2, hx151_3⟩ := at_T45 HR2.out x8_2 p151 q151
          cases e151
          replace hx151_0 := (HB.out.cell (qwL w _ hx151_0)).trans hx151_0
          replace hx151_1 := (HB.out.cell (qwL w _ hx151_1)).trans hx151_1
          replace hx151_2 := (HB.out.cell (qwL w _ hx151_2)).trans hx151_2
          replace hx151_3 := (HB.out.cell (qwL w _ hx151_3)).trans hx151_3
          replace p151 := eq_true p151
          replace q151 := eq_true q151
          go_upto_region 8 with (first | ((with_reducible refine gate_dst (N := 9) rfl ?_); refine box_event ?hg (N := 9) ?hd (cs := #[.int .i64 0, .int .i64 0, .int .i64 0, .int .i64 0]) (t := 36) ?hr ?_; (case hd => rfl); (case hg => rfl); (case hr => go_simp; done); intro gb152 hg w16 hbox hb; have n0_ := aMk (qrB HO_7.out hb); have n1_ := aMk (qbP HB.out hb); have n2_ := aMk (hbox); have n3_ := aMk ((by rw [hg]; exact (qbZ HB.out) : w.heap.size ≤ gb152)); have n4_ := aMk ((by rw [hg]; exact (qbZ HB.out) : w.heap.size ≤ gb152)); clear HO_7; clear HB; have HO_7 := n0_; have HB := n1_; have BK152 := n2_; have GW152 := n3_; have GE152 := n4_; clear n0_ n1_ n2_ n3_ n4_; clear hb hbox hg; have hcz17_0 : w16.cell? ⟨gb152, 0, none⟩ = some (.int .i64 0) := (blk_cell BK152.out 0).trans rfl; have hcz17_1 : w16.cell? ⟨gb152, 1, none⟩ = some (.int .i64 0) := (blk_cell BK152.out 1).trans rfl; have hcz17_2 : w16.cell? ⟨gb152, 2, none⟩ = some (.int .i64 0) := (blk_cell BK152.out 2).trans rfl; have hcz17_3 : w16.cell? ⟨gb152, 3, none⟩ = some (.int .i64 0) := (blk_cell BK152.out 3).trans rfl; have hfz17_0 := qbF BK152.out 0; have hfz17_1 := qbF BK152.out 1; have hfz17_2 := qbF BK152.out 2; have hfz17_3 := qbF BK152.out 3))
          (try simp only [Act.put, sqA, sq0, sq1])
          go_cut [61] (fun v61 wc => ∃ (kq : Nat) (x61_14 : Bool), v61 = .bool x61_14 ∧ Aside0 (naskhref04_wrong.j2 kq a0 a1 l2 x7_2 x8_2 x61_14 ((rd_T45 l2 x8_2).f0.f0) ((rd_T45 l2 x8_2).f0.f1) ((rd_T45 l2 x8_2).f1.f0) ((rd_T45 l2 x8_2).f1.f1) = some r) ∧ Aside0 (kq ≤ k2) ∧ Aside0 (Kd.R Kd.bool 4 wc w.heap.size (fun _ => True) v149 x7_2) ∧ Aside0 (wc.heap[gb152]? = some (.cells #[.int .i64 ((rd_T45 l2 x8_2).f0.f0), .int .i64 ((rd_T45 l2 x8_2).f0.f1), .int .i64 ((rd_T45 l2 x8_2).f1.f0), .int .i64 ((rd_T45 l2 x8_2).f1.f1)] 36 (0, 0))) ∧ Aside0 (Below w.heap.size w wc))
          case first =>
           have H := HC15.out
           clear HC15
           replace H := qoB.mp H
           obtain ⟨t153, A180, H⟩ := H
           try dsimp only at H
           have A18 := aMk A180; clear A180
           by_cases c19 : t153 = true
           ·subst c19
            rw [if_pos rfl] at H
            replace H := qoB.mp H
            obtain ⟨t154, A200, H⟩ := H
            try dsimp only at H
            have A20 := aMk A200; clear A200
            by_cases c21 : t154 = true
            ·subst c21
             rw [if_pos rfl] at H
             by_cases c22 : ((rd_T45 l2 x8_2).f0.f1) > a0
             ·rw [if_pos c22] at H
              have c22b0 := qdT c22
              clear c22
              (first | rw [c22b0] | (simp only [i64_w, i32_w]; rw [c22b0]) | skip)
              have H' := aMk H
              clear H
              have hcz23_0 : w16.cell? ⟨gb152, 0, none⟩ = some (.int .i64 0) := (blk_cell BK152.out 0).trans rfl
              have hcz23_1 : w16.cell? ⟨gb152, 1, none⟩ = some (.int .i64 0) := (blk_cell BK152.out 1).trans rfl
              have hcz23_2 : w16.cell? ⟨gb152, 2, none⟩ = some (.int .i64 0) := (blk_cell BK152.out 2).trans rfl
              have hcz23_3 : w16.cell? ⟨gb152, 3, none⟩ = some (.int .i64 0) := (blk_cell BK152.out 3).trans rfl
              have hfz23_0 := qbF BK152.out 0
              have hfz23_1 := qbF BK152.out 1
              have hfz23_2 := qbF BK152.out 2
              have hfz23_3 := qbF BK152.out 3
              go_wp2_with (first | ((with_reducible refine gate_callee (f := 167) rfl ?_); refine goesL_ (some 40) rfl rfl Tryz.func167 (by kernel_rfl) rfl #[.agg #[.int .i64 ((rd_T45 l2 x8_2).f0.f0), .int .i64 ((rd_T45 l2 x8_2).f0.f1)]] rfl (by (try simp only [lm0, lm1, lm2]); first | done | rfl | (simp only [lm3, lm4]; rfl)) ?_; (with_reducible refine (naskhref03_Right.calls ((rd_T45 l2 x8_2).f0.f0) ((rd_T45 l2 x8_2).f0.f1) true _ A18.out).mono ?_); rintro e w24 ⟨rfl, hb⟩; refine ⟨_, rfl, ?_⟩; have n0_ := aMk (qrB (by (with_reducible repeat (first | apply qrA | apply qrN | apply qrD)); exact (qrM (Kd.R_far (p := ⟨gb152, 3, none⟩) (Kd.R_far (p := ⟨gb152, 2, none⟩) (Kd.R_far (p := ⟨gb152, 1, none⟩) (Kd.R_far (p := ⟨gb152, 0, none⟩) (Kd.R_types HO_7.out BK152.out (by decide)) (fun _ hk => hk.2) (.int .i64 ((rd_T45 l2 x8_2).f0.f0))) (fun _ hk => hk.2) (.int .i64 ((rd_T45 l2 x8_2).f0.f1))) (fun _ hk => hk.2) (.int .i64 ((rd_T45 l2 x8_2).f1.f0))) (fun _ hk => hk.2) (.int .i64 ((rd_T45 l2 x8_2).f1.f1))) (fun _ h_ => h_.1))) hb); have n1_ := aMk (blk_below (g := gb152) (o := .cells #[.int .i64 ((rd_T45 l2 x8_2).f0.f0), .int .i64 ((rd_T45 l2 x8_2).f0.f1), .int .i64 ((rd_T45 l2 x8_2).f1.f0), .int .i64 ((rd_T45 l2 x8_2).f1.f1)] 36 (0, 0)) (by refine blk_put (cs := #[.int .i64 ((rd_T45 l2 x8_2).f0.f0), .int .i64 ((rd_T45 l2 x8_2).f0.f1), .int .i64 ((rd_T45 l2 x8_2).f1.f0), .int .i64 0]) ?_ 3 _ rfl; refine blk_put (cs := #[.int .i64 ((rd_T45 l2 x8_2).f0.f0), .int .i64 ((rd_T45 l2 x8_2).f0.f1), .int .i64 0, .int .i64 0]) ?_ 2 _ rfl; refine blk_put (cs := #[.int .i64 ((rd_T45 l2 x8_2).f0.f0), .int .i64 0, .int .i64 0, .int .i64 0]) ?_ 1 _ rfl; refine blk_put (cs := #[.int .i64 0, .int .i64 0, .int .i64 0, .int .i64 0]) ?_ 0 _ rfl; exact BK152.out) hb); have n2_ := aMk (qbP (by repeat (first | (with_reducible first | exact HB.out | apply qbA | apply qbN | apply qb1 | refine qbS ?_ GE152.out) | exact HB.out)) hb); clear HO_7; clear BK152; clear HB; have HO_7 := n0_; have BK152 := n1_; have HB := n2_; clear n0_ n1_ n2_; have hcz25_0 : w24.cell? ⟨gb152, 0, none⟩ = some (.int .i64 ((rd_T45 l2 x8_2).f0.f0)) := (blk_cell BK152.out 0).trans rfl; have hcz25_1 : w24.cell? ⟨gb152, 1, none⟩ = some (.int .i64 ((rd_T45 l2 x8_2).f0.f1)) := (blk_cell BK152.out 1).trans rfl; have hcz25_2 : w24.cell? ⟨gb152, 2, none⟩ = some (.int .i64 ((rd_T45 l2 x8_2).f1.f0)) := (blk_cell BK152.out 2).trans rfl; have hcz25_3 : w24.cell? ⟨gb152, 3, none⟩ = some (.int .i64 ((rd_T45 l2 x8_2).f1.f1)) := (blk_cell BK152.out 3).trans rfl; have hfz25_0 := qbF BK152.out 0; have hfz25_1 := qbF BK152.out 1; have hfz25_2 := qbF BK152.out 2; have hfz25_3 := qbF BK152.out 3) | (go_at_call 167; (with_reducible refine (naskhref03_Right.calls ((rd_T45 l2 x8_2).f1.f0) ((rd_T45 l2 x8_2).f1.f1) true _ A20.out).mono ?_); rintro e w26 ⟨rfl, hb⟩; have n0_ := aMk (qrB HO_7.out hb); have n1_ := aMk (blk_below (g := gb152) (o := .cells #[.int .i64 ((rd_T45 l2 x8_2).f0.f0), .int .i64 ((rd_T45 l2 x8_2).f0.f1), .int .i64 ((rd_T45 l2 x8_2).f1.f0), .int .i64 ((rd_T45 l2 x8_2).f1.f1)] 36 (0, 0)) (by exact BK152.out) hb); have n2_ := aMk (qbP HB.out hb); clear HO_7; clear BK152; clear HB; have HO_7 := n0_; have BK152 := n1_; have HB := n2_; clear n0_ n1_ n2_; have hcz27_0 : w26.cell? ⟨gb152, 0, none⟩ = some (.int .i64 ((rd_T45 l2 x8_2).f0.f0)) := (blk_cell BK152.out 0).trans rfl; have hcz27_1 : w26.cell? ⟨gb152, 1, none⟩ = some (.int .i64 ((rd_T45 l2 x8_2).f0.f1)) := (blk_cell BK152.out 1).trans rfl; have hcz27_2 : w26.cell? ⟨gb152, 2, none⟩ = some (.int .i64 ((rd_T45 l2 x8_2).f1.f0)) := (blk_cell BK152.out 2).trans rfl; have hcz27_3 : w26.cell? ⟨gb152, 3, none⟩ = some (.int .i64 ((rd_T45 l2 x8_2).f1.f1)) := (blk_cell BK152.out 3).trans rfl; have hfz27_0 := qbF BK152.out 0; have hfz27_1 := qbF BK152.out 1; have hfz27_2 := qbF BK152.out 2; have hfz27_3 := qbF BK152.out 3))
              go_meet
              case rel => exact ⟨_, (true), rfl, H', ⟨by have := HJ3.out; have := HK2.out; first | omega | exact qlR _⟩, ⟨by (with_reducible repeat (first | apply qrA | apply qrN | apply qrD)); exact HO_7.out⟩, ⟨by exact BK152.out⟩, ⟨by repeat (first | (with_reducible first | exact HB.out | apply qbA | apply qbN | apply qb1 | refine qbS ?_ GE152.out) | exact HB.out)⟩⟩
             ·rw [if_neg c22] at H
              have c22b0 := qdF c22
              clear c22
              (first | rw [c22b0] | (simp only [i64_w, i32_w]; rw [c22b0]) | skip)
              have H' := aMk H
              clear H
              have hcz28_0 : w16.cell? ⟨gb152, 0, none⟩ = some (.int .i64 0) := (blk_cell BK152.out 0).trans rfl
              have hcz28_1 : w16.cell? ⟨gb152, 1, none⟩ = some (.int .i64 0) := (blk_cell BK152.out 1).trans rfl
              have hcz28_2 : w16.cell? ⟨gb152, 2, none⟩ = some (.int .i64 0) := (blk_cell BK152.out 2).trans rfl
              have hcz28_3 : w16.cell? ⟨gb152, 3, none⟩ = some (.int .i64 0) := (blk_cell BK152.out 3).trans rfl
              have hfz28_0 := qbF BK152.out 0
              have hfz28_1 := qbF BK152.out 1
              have hfz28_2 := qbF BK152.out 2
              have hfz28_3 := qbF BK152.out 3
              go_wp2_with (first | ((with_reducible refine gate_callee (f := 167) rfl ?_); refine goesL_ (some 40) rfl rfl Tryz.func167 (by kernel_rfl) rfl #[.agg #[.int .i64 ((rd_T45 l2 x8_2).f0.f0), .int .i64 ((rd_T45 l2 x8_2).f0.f1)]] rfl (by (try simp only [lm0, lm1, lm2]); first | done | rfl | (simp only [lm3, lm4]; rfl)) ?_; (with_reducible refine (naskhref03_Right.calls ((rd_T45 l2 x8_2).f0.f0) ((rd_T45 l2 x8_2).f0.f1) true _ A18.out).mono ?_); rintro e w29 ⟨rfl, hb⟩; refine ⟨_, rfl, ?_⟩; have n0_ := aMk (qrB (by (with_reducible repeat (first | apply qrA | apply qrN | apply qrD)); exact (qrM (Kd.R_far (p := ⟨gb152, 3, none⟩) (Kd.R_far (p := ⟨gb152, 2, none⟩) (Kd.R_far (p := ⟨gb152, 1, none⟩) (Kd.R_far (p := ⟨gb152, 0, none⟩) (Kd.R_types HO_7.out BK152.out (by decide)) (fun _ hk => hk.2) (.int .i64 ((rd_T45 l2 x8_2).f0.f0))) (fun _ hk => hk.2) (.int .i64 ((rd_T45 l2 x8_2).f0.f1))) (fun _ hk => hk.2) (.int .i64 ((rd_T45 l2 x8_2).f1.f0))) (fun _ hk => hk.2) (.int .i64 ((rd_T45 l2 x8_2).f1.f1))) (fun _ h_ => h_.1))) hb); have n1_ := aMk (blk_below (g := gb152) (o := .cells #[.int .i64 ((rd_T45 l2 x8_2).f0.f0), .int .i64 ((rd_T45 l2 x8_2).f0.f1), .int .i64 ((rd_T45 l2 x8_2).f1.f0), .int .i64 ((rd_T45 l2 x8_2).f1.f1)] 36 (0, 0)) (by refine blk_put (cs := #[.int .i64 ((rd_T45 l2 x8_2).f0.f0), .int .i64 ((rd_T45 l2 x8_2).f0.f1), .int .i64 ((rd_T45 l2 x8_2).f1.f0), .int .i64 0]) ?_ 3 _ rfl; refine blk_put (cs := #[.int .i64 ((rd_T45 l2 x8_2).f0.f0), .int .i64 ((rd_T45 l2 x8_2).f0.f1), .int .i64 0, .int .i64 0]) ?_ 2 _ rfl; refine blk_put (cs := #[.int .i64 ((rd_T45 l2 x8_2).f0.f0), .int .i64 0, .int .i64 0, .int .i64 0]) ?_ 1 _ rfl; refine blk_put (cs := #[.int .i64 0, .int .i64 0, .int .i64 0, .int .i64 0]) ?_ 0 _ rfl; exact BK152.out) hb); have n2_ := aMk (qbP (by repeat (first | (with_reducible first | exact HB.out | apply qbA | apply qbN | apply qb1 | refine qbS ?_ GE152.out) | exact HB.out)) hb); clear HO_7; clear BK152; clear HB; have HO_7 := n0_; have BK152 := n1_; have HB := n2_; clear n0_ n1_ n2_; have hcz30_0 : w29.cell? ⟨gb152, 0, none⟩ = some (.int .i64 ((rd_T45 l2 x8_2).f0.f0)) := (blk_cell BK152.out 0).trans rfl; have hcz30_1 : w29.cell? ⟨gb152, 1, none⟩ = some (.int .i64 ((rd_T45 l2 x8_2).f0.f1)) := (blk_cell BK152.out 1).trans rfl; have hcz30_2 : w29.cell? ⟨gb152, 2, none⟩ = some (.int .i64 ((rd_T45 l2 x8_2).f1.f0)) := (blk_cell BK152.out 2).trans rfl; have hcz30_3 : w29.cell? ⟨gb152, 3, none⟩ = some (.int .i64 ((rd_T45 l2 x8_2).f1.f1)) := (blk_cell BK152.out 3).trans rfl; have hfz30_0 := qbF BK152.out 0; have hfz30_1 := qbF BK152.out 1; have hfz30_2 := qbF BK152.out 2; have hfz30_3 := qbF BK152.out 3) | (go_at_call 167; (with_reducible refine (naskhref03_Right.calls ((rd_T45 l2 x8_2).f1.f0) ((rd_T45 l2 x8_2).f1.f1) true _ A20.out).mono ?_); rintro e w31 ⟨rfl, hb⟩; have n0_ := aMk (qrB HO_7.out hb); have n1_ := aMk (blk_below (g := gb152) (o := .cells #[.int .i64 ((rd_T45 l2 x8_2).f0.f0), .int .i64 ((rd_T45 l2 x8_2).f0.f1), .int .i64 ((rd_T45 l2 x8_2).f1.f0), .int .i64 ((rd_T45 l2 x8_2).f1.f1)] 36 (0, 0)) (by exact BK152.out) hb); have n2_ := aMk (qbP HB.out hb); clear HO_7; clear BK152; clear HB; have HO_7 := n0_; have BK152 := n1_; have HB := n2_; clear n0_ n1_ n2_; have hcz32_0 : w31.cell? ⟨gb152, 0, none⟩ = some (.int .i64 ((rd_T45 l2 x8_2).f0.f0)) := (blk_cell BK152.out 0).trans rfl; have hcz32_1 : w31.cell? ⟨gb152, 1, none⟩ = some (.int .i64 ((rd_T45 l2 x8_2).f0.f1)) := (blk_cell BK152.out 1).trans rfl; have hcz32_2 : w31.cell? ⟨gb152, 2, none⟩ = some (.int .i64 ((rd_T45 l2 x8_2).f1.f0)) := (blk_cell BK152.out 2).trans rfl; have hcz32_3 : w31.cell? ⟨gb152, 3, none⟩ = some (.int .i64 ((rd_T45 l2 x8_2).f1.f1)) := (blk_cell BK152.out 3).trans rfl; have hfz32_0 := qbF BK152.out 0; have hfz32_1 := qbF BK152.out 1; have hfz32_2 := qbF BK152.out 2; have hfz32_3 := qbF BK152.out 3))
              go_meet
              case rel => exact ⟨_, (decide (((rd_T45 l2 x8_2).f1.f1) > a1)), rfl, H', ⟨by have := HJ3.out; have := HK2.out; first | omega | exact qlR _⟩, ⟨by (with_reducible repeat (first | apply qrA | apply qrN | apply qrD)); exact HO_7.out⟩, ⟨by exact BK152.out⟩, ⟨by repeat (first | (with_reducible first | exact HB.out | apply qbA | apply qbN | apply qb1 | refine qbS ?_ GE152.out) | exact HB.out)⟩⟩
            ·replace c21 := qbE.mpr c21
             subst c21
             rw [if_neg (show ¬ (false = true) by decide)] at H
             have H' := aMk H
             clear H
             have hcz33_0 : w16.cell? ⟨gb152, 0, none⟩ = some (.int .i64 0) := (blk_cell BK152.out 0).trans rfl
             have hcz33_1 : w16.cell? ⟨gb152, 1, none⟩ = some (.int .i64 0) := (blk_cell BK152.out 1).trans rfl
             have hcz33_2 : w16.cell? ⟨gb152, 2, none⟩ = some (.int .i64 0) := (blk_cell BK152.out 2).trans rfl
             have hcz33_3 : w16.cell? ⟨gb152, 3, none⟩ = some (.int .i64 0) := (blk_cell BK152.out 3).trans rfl
             have hfz33_0 := qbF BK152.out 0
             have hfz33_1 := qbF BK152.out 1
             have hfz33_2 := qbF BK152.out 2
             have hfz33_3 := qbF BK152.out 3
             go_wp2_with (first | ((with_reducible refine gate_callee (f := 167) rfl ?_); refine goesL_ (some 40) rfl rfl Tryz.func167 (by kernel_rfl) rfl #[.agg #[.int .i64 ((rd_T45 l2 x8_2).f0.f0), .int .i64 ((rd_T45 l2 x8_2).f0.f1)]] rfl (by (try simp only [lm0, lm1, lm2]); first | done | rfl | (simp only [lm3, lm4]; rfl)) ?_; (with_reducible refine (naskhref03_Right.calls ((rd_T45 l2 x8_2).f0.f0) ((rd_T45 l2 x8_2).f0.f1) true _ A18.out).mono ?_); rintro e w34 ⟨rfl, hb⟩; refine ⟨_, rfl, ?_⟩; have n0_ := aMk (qrB (by (with_reducible repeat (first | apply qrA | apply qrN | apply qrD)); exact (qrM (Kd.R_far (p := ⟨gb152, 3, none⟩) (Kd.R_far (p := ⟨gb152, 2, none⟩) (Kd.R_far (p := ⟨gb152, 1, none⟩) (Kd.R_far (p := ⟨gb152, 0, none⟩) (Kd.R_types HO_7.out BK152.out (by decide)) (fun _ hk => hk.2) (.int .i64 ((rd_T45 l2 x8_2).f0.f0))) (fun _ hk => hk.2) (.int .i64 ((rd_T45 l2 x8_2).f0.f1))) (fun _ hk => hk.2) (.int .i64 ((rd_T45 l2 x8_2).f1.f0))) (fun _ hk => hk.2) (.int .i64 ((rd_T45 l2 x8_2).f1.f1))) (fun _ h_ => h_.1))) hb); have n1_ := aMk (blk_below (g := gb152) (o := .cells #[.int .i64 ((rd_T45 l2 x8_2).f0.f0), .int .i64 ((rd_T45 l2 x8_2).f0.f1), .int .i64 ((rd_T45 l2 x8_2).f1.f0), .int .i64 ((rd_T45 l2 x8_2).f1.f1)] 36 (0, 0)) (by refine blk_put (cs := #[.int .i64 ((rd_T45 l2 x8_2).f0.f0), .int .i64 ((rd_T45 l2 x8_2).f0.f1), .int .i64 ((rd_T45 l2 x8_2).f1.f0), .int .i64 0]) ?_ 3 _ rfl; refine blk_put (cs := #[.int .i64 ((rd_T45 l2 x8_2).f0.f0), .int .i64 ((rd_T45 l2 x8_2).f0.f1), .int .i64 0, .int .i64 0]) ?_ 2 _ rfl; refine blk_put (cs := #[.int .i64 ((rd_T45 l2 x8_2).f0.f0), .int .i64 0, .int .i64 0, .int .i64 0]) ?_ 1 _ rfl; refine blk_put (cs := #[.int .i64 0, .int .i64 0, .int .i64 0, .int .i64 0]) ?_ 0 _ rfl; exact BK152.out) hb); have n2_ := aMk (qbP (by repeat (first | (with_reducible first | exact HB.out | apply qbA | apply qbN | apply qb1 | refine qbS ?_ GE152.out) | exact HB.out)) hb); clear HO_7; clear BK152; clear HB; have HO_7 := n0_; have BK152 := n1_; have HB := n2_; clear n0_ n1_ n2_; have hcz35_0 : w34.cell? ⟨gb152, 0, none⟩ = some (.int .i64 ((rd_T45 l2 x8_2).f0.f0)) := (blk_cell BK152.out 0).trans rfl; have hcz35_1 : w34.cell? ⟨gb152, 1, none⟩ = some (.int .i64 ((rd_T45 l2 x8_2).f0.f1)) := (blk_cell BK152.out 1).trans rfl; have hcz35_2 : w34.cell? ⟨gb152, 2, none⟩ = some (.int .i64 ((rd_T45 l2 x8_2).f1.f0)) := (blk_cell BK152.out 2).trans rfl; have hcz35_3 : w34.cell? ⟨gb152, 3, none⟩ = some (.int .i64 ((rd_T45 l2 x8_2).f1.f1)) := (blk_cell BK152.out 3).trans rfl; have hfz35_0 := qbF BK152.out 0; have hfz35_1 := qbF BK152.out 1; have hfz35_2 := qbF BK152.out 2; have hfz35_3 := qbF BK152.out 3) | (go_at_call 167; (with_reducible refine (naskhref03_Right.calls ((rd_T45 l2 x8_2).f1.f0) ((rd_T45 l2 x8_2).f1.f1) false _ A20.out).mono ?_); rintro e w36 ⟨rfl, hb⟩; have n0_ := aMk (qrB HO_7.out hb); have n1_ := aMk (blk_below (g := gb152) (o := .cells #[.int .i64 ((rd_T45 l2 x8_2).f0.f0), .int .i64 ((rd_T45 l2 x8_2).f0.f1), .int .i64 ((rd_T45 l2 x8_2).f1.f0), .int .i64 ((rd_T45 l2 x8_2).f1.f1)] 36 (0, 0)) (by exact BK152.out) hb); have n2_ := aMk (qbP HB.out hb); clear HO_7; clear BK152; clear HB; have HO_7 := n0_; have BK152 := n1_; have HB := n2_; clear n0_ n1_ n2_; (try clear hi)))
             go_meet
             case rel => exact ⟨_, (true), rfl, H', ⟨by have := HJ3.out; have := HK2.out; first | omega | exact qlR _⟩, ⟨by (with_reducible repeat (first | apply qrA | apply qrN | apply qrD)); exact HO_7.out⟩, ⟨by exact BK152.out⟩, ⟨by repeat (first | (with_reducible first | exact HB.out | apply qbA | apply qbN | apply qb1 | refine qbS ?_ GE152.out) | exact HB.out)⟩⟩
           ·replace c19 := qbE.mpr c19
            subst c19
            rw [if_neg (show ¬ (false = true) by decide)] at H
            have H' := aMk H
            clear H
            have hcz37_0 : w16.cell? ⟨gb152, 0, none⟩ = some (.int .i64 0) := (blk_cell BK152.out 0).trans rfl
            have hcz37_1 : w16.cell? ⟨gb152, 1, none⟩ = some (.int .i64 0) := (blk_cell BK152.out 1).trans rfl
            have hcz37_2 : w16.cell? ⟨gb152, 2, none⟩ = some (.int .i64 0) := (blk_cell BK152.out 2).trans rfl
            have hcz37_3 : w16.cell? ⟨gb152, 3, none⟩ = some (.int .i64 0) := (blk_cell BK152.out 3).trans rfl
            have hfz37_0 := qbF BK152.out 0
            have hfz37_1 := qbF BK152.out 1
            have hfz37_2 := qbF BK152.out 2
            have hfz37_3 := qbF BK152.out 3
            go_wp2_with (first | ((with_reducible refine gate_callee (f := 167) rfl ?_); refine goesL_ (some 40) rfl rfl Tryz.func167 (by kernel_rfl) rfl #[.agg #[.int .i64 ((rd_T45 l2 x8_2).f0.f0), .int .i64 ((rd_T45 l2 x8_2).f0.f1)]] rfl (by (try simp only [lm0, lm1, lm2]); first | done | rfl | (simp only [lm3, lm4]; rfl)) ?_; (with_reducible refine (naskhref03_Right.calls ((rd_T45 l2 x8_2).f0.f0) ((rd_T45 l2 x8_2).f0.f1) false _ A18.out).mono ?_); rintro e w38 ⟨rfl, hb⟩; refine ⟨_, rfl, ?_⟩; have n0_ := aMk (qrB (by (with_reducible repeat (first | apply qrA | apply qrN | apply qrD)); exact (qrM (Kd.R_far (p := ⟨gb152, 3, none⟩) (Kd.R_far (p := ⟨gb152, 2, none⟩) (Kd.R_far (p := ⟨gb152, 1, none⟩) (Kd.R_far (p := ⟨gb152, 0, none⟩) (Kd.R_types HO_7.out BK152.out (by decide)) (fun _ hk => hk.2) (.int .i64 ((rd_T45 l2 x8_2).f0.f0))) (fun _ hk => hk.2) (.int .i64 ((rd_T45 l2 x8_2).f0.f1))) (fun _ hk => hk.2) (.int .i64 ((rd_T45 l2 x8_2).f1.f0))) (fun _ hk => hk.2) (.int .i64 ((rd_T45 l2 x8_2).f1.f1))) (fun _ h_ => h_.1))) hb); have n1_ := aMk (blk_below (g := gb152) (o := .cells #[.int .i64 ((rd_T45 l2 x8_2).f0.f0), .int .i64 ((rd_T45 l2 x8_2).f0.f1), .int .i64 ((rd_T45 l2 x8_2).f1.f0), .int .i64 ((rd_T45 l2 x8_2).f1.f1)] 36 (0, 0)) (by refine blk_put (cs := #[.int .i64 ((rd_T45 l2 x8_2).f0.f0), .int .i64 ((rd_T45 l2 x8_2).f0.f1), .int .i64 ((rd_T45 l2 x8_2).f1.f0), .int .i64 0]) ?_ 3 _ rfl; refine blk_put (cs := #[.int .i64 ((rd_T45 l2 x8_2).f0.f0), .int .i64 ((rd_T45 l2 x8_2).f0.f1), .int .i64 0, .int .i64 0]) ?_ 2 _ rfl; refine blk_put (cs := #[.int .i64 ((rd_T45 l2 x8_2).f0.f0), .int .i64 0, .int .i64 0, .int .i64 0]) ?_ 1 _ rfl; refine blk_put (cs := #[.int .i64 0, .int .i64 0, .int .i64 0, .int .i64 0]) ?_ 0 _ rfl; exact BK152.out) hb); have n2_ := aMk (qbP (by repeat (first | (with_reducible first | exact HB.out | apply qbA | apply qbN | apply qb1 | refine qbS ?_ GE152.out) | exact HB.out)) hb); clear HO_7; clear BK152; clear HB; have HO_7 := n0_; have BK152 := n1_; have HB := n2_; clear n0_ n1_ n2_; (try clear hi)))
            go_meet
            case rel => exact ⟨_, (true), rfl, H', ⟨by have := HJ3.out; have := HK2.out; first | omega | exact qlR _⟩, ⟨by (with_reducible repeat (first | apply qrA | apply qrN | apply qrD)); exact HO_7.out⟩, ⟨by exact BK152.out⟩, ⟨by repeat (first | (with_reducible first | exact HB.out | apply qbA | apply qbN | apply qb1 | refine qbS ?_ GE152.out) | exact HB.out)⟩⟩
          case rest =>
           clear HC15
           obtain ⟨kq, x61_14, rfl, HA, HJ14, HO_7, BK152, HB⟩ := hcut
           cases kq with
           | zero => exact absurd HA.out (by simp [naskhref04_wrong.j2])
           | succ kj14 =>
            have H := HA.out
            clear HA
            simp only [naskhref04_wrong.j2] at H
            by_cases c39 : x61_14 = true
            ·subst c39
             rw [if_pos rfl] at H
             obtain rfl := qoI H
             go_wp2
             go_ret
             exact ⟨rfl, by repeat (first | (with_reducible first | exact HB.out | apply qbA | apply qbN | apply qb1 | refine qbS ?_ GE152.out) | exact HB.out)⟩
            ·replace c39 := qbE.mpr c39
             subst c39
             rw [if_neg (show ¬ (false = true) by decide)] at H
             have H' := aMk H
             clear H
             have hcz40_0 : wc.cell? ⟨gb152, 0, none⟩ = some (.int .i64 ((rd_T45 l2 x8_2).f0.f0)) := (blk_cell BK152.out 0).trans rfl
             have hcz40_1 : wc.cell? ⟨gb152, 1, none⟩ = some (.int .i64 ((rd_T45 l2 x8_2).f0.f1)) := (blk_cell BK152.out 1).trans rfl
             have hcz40_2 : wc.cell? ⟨gb152, 2, none⟩ = some (.int .i64 ((rd_T45 l2 x8_2).f1.f0)) := (blk_cell BK152.out 2).trans rfl
             have hcz40_3 : wc.cell? ⟨gb152, 3, none⟩ = some (.int .i64 ((rd_T45 l2 x8_2).f1.f1)) := (blk_cell BK152.out 3).trans rfl
             have hfz40_0 := qbF BK152.out 0
             have hfz40_1 := qbF BK152.out 1
             have hfz40_2 := qbF BK152.out 2
             have hfz40_3 := qbF BK152.out 3
             go_wp2
             go_loopg [10] kj14 (fun kq v10 w' => ∃ (x7_4 : List Bool) (x10_4 : Int), v10 = .int .i64 x10_4 ∧ Aside0 (naskhref04_wrong.l1 kq a0 a1 l2 x7_4 x8_2 x10_4 ((rd_T45 l2 x8_2).f0.f0) ((rd_T45 l2 x8_2).f0.f1) ((rd_T45 l2 x8_2).f1.f0) ((rd_T45 l2 x8_2).f1.f1) = some r) ∧ Aside0 (kq ≤ kj14) ∧ Aside0 (Kd.R Kd.bool 4 w' w.heap.size (fun _ => True) v149 x7_4) ∧ Aside0 (w'.heap[gb152]? = some (.cells #[.int .i64 ((rd_T45 l2 x8_2).f0.f0), .int .i64 ((rd_T45 l2 x8_2).f0.f1), .int .i64 ((rd_T45 l2 x8_2).f1.f0), .int .i64 ((rd_T45 l2 x8_2).f1.f1)] 36 (0, 0))) ∧ Aside0 (Below w.heap.size w w'))
             case atStart => exact ⟨(x7_2), (((rd_T45 l2 x8_2).f1.f0)), rfl, H', ⟨qlR _⟩, ⟨by (with_reducible repeat (first | apply qrA | apply qrN | apply qrD)); exact HO_7.out⟩, ⟨by exact BK152.out⟩, ⟨by repeat (first | (with_reducible first | exact HB.out | apply qbA | apply qbN | apply qb1 | refine qbS ?_ GE152.out) | exact HB.out)⟩⟩
             case round =>
              clear H'
              obtain ⟨x7_4, x10_4, rfl, HA, HK4, HO_7, BK152, HB⟩ := hrel
              cases gk with
              | zero => exact absurd HA.out (by simp [naskhref04_wrong.l1])
              | succ k4 =>
               have H := HA.out
               clear HA
               simp only [naskhref04_wrong.l1] at H
               by_cases c41 : x10_4 < ((rd_T45 l2 x8_2).f1.f1)
               ·rw [if_pos c41] at H
                have c41b0 := qdT c41
                clear c41
                by_cases c42 : 0 ≤ x10_4
                ·rw [if_pos c42] at H
                 have c42b0 := qdT c42
                 clear c42
                 by_cases c43 : x10_4 < (x7_4.length : Int)
                 ·rw [if_pos c43] at H
                  have c43b0 := qdT c43
                  clear c43
                  obtain ⟨y155, hy155⟩ : ∃ y_ : List Bool, y_ = (x7_4.set (x10_4 : Int).toNat true) := ⟨_, rfl⟩
                  replace H : (naskhref04_wrong.l1 k4 a0 a1 l2 y155 x8_2 (wrap64 (x10_4 + 1)) ((rd_T45 l2 x8_2).f0.f0) ((rd_T45 l2 x8_2).f0.f1) ((rd_T45 l2 x8_2).f1.f0) ((rd_T45 l2 x8_2).f1.f1)) = some r := by first | (rw [hy155]; with_reducible exact H) | (have H2_ := (qoS _ _).symm.trans H; rw [hy155]; with_reducible exact H2_) | (have H2_ := (qoS _ _).symm.trans H; with_reducible exact H2_) | with_reducible exact H | (rw [hy155]; exact H) | exact H
                  have Ny155 := aMk hy155; clear hy155
                  have H' := aMk H
                  clear H
                  have hcz45_0 : wr.cell? ⟨gb152, 0, none⟩ = some (.int .i64 ((rd_T45 l2 x8_2).f0.f0)) := (blk_cell BK152.out 0).trans rfl
                  have hcz45_1 : wr.cell? ⟨gb152, 1, none⟩ = some (.int .i64 ((rd_T45 l2 x8_2).f0.f1)) := (blk_cell BK152.out 1).trans rfl
                  have hcz45_2 : wr.cell? ⟨gb152, 2, none⟩ = some (.int .i64 ((rd_T45 l2 x8_2).f1.f0)) := (blk_cell BK152.out 2).trans rfl
                  have hcz45_3 : wr.cell? ⟨gb152, 3, none⟩ = some (.int .i64 ((rd_T45 l2 x8_2).f1.f1)) := (blk_cell BK152.out 3).trans rfl
                  have hfz45_0 := qbF BK152.out 0
                  have hfz45_1 := qbF BK152.out 1
                  have hfz45_2 := qbF BK152.out 2
                  have hfz45_3 := qbF BK152.out 3
                  have p44 : 0 ≤ (x10_4 : Int) := qoD (by assumption)
                  have q44 : (x10_4 : Int) < ((x7_4.length : Int) : Int) := qoD (by assumption)
                  obtain ⟨go44, co44, eo44, gb44, gl44, cl44, HG44⟩ := Kd.R_form HO_7.out (by omega)
                  (first | cases eo44 | (injection eo44 with ea_ en_ ec_; (first | subst ea_ | (injection ea_ with ea_; subst ea_)); subst ec_; clear en_))
                  have GB44 := aMk gb44
                  have GG44 := aMk HG44
                  clear gb44 gl44 HG44
                  obtain ⟨hx44_0, hf44_0⟩ := Kd.R_celln false HO_7.out (x10_4 : Int) p44 q44
                  replace p44 := eq_true p44
                  replace q44 := eq_true q44
                  have HP46 := Kd.R_putg HO_7.out (x10_4 : Int) true
                  go_wp2_with (first | ((with_reducible refine gate_store (t := 4) (p := 74) rfl ?_); refine store_event (t := 4) (p := 74) (v := ?vo_w47) (w1 := (wr.setCell ⟨go44, (x10_4 : Int).toNat, none⟩ (.bool true))) ?hg ?ho ?hn ?hr ?_; (case ho => rfl); (case hg => rfl); (case hn => rfl); (case hr => go_simp; done); intro w47 hw; have hg : wr.grownBy w47 (some go44) := (by rw [hw]; exact HP46.2); have hp_ : Kd.R Kd.bool 4 w47 w.heap.size (fun _ => True) (.slice (some ⟨go44, 0, none⟩) x7_4.length co44) y155 := (by rw [hw, Ny155.out]; exact HP46.1); clear HP46; have n0_ := aMk (hp_); have n1_ := aMk (blk_grown (g := gb152) (o := .cells #[.int .i64 ((rd_T45 l2 x8_2).f0.f0), .int .i64 ((rd_T45 l2 x8_2).f0.f1), .int .i64 ((rd_T45 l2 x8_2).f1.f0), .int .i64 ((rd_T45 l2 x8_2).f1.f1)] 36 (0, 0)) (by exact BK152.out) hg (Kd.R_ne HO_7.out BK152.out (by decide))); have n2_ := aMk ((by rw [hw]; exact qbS (HB.out) GB44.out : Below w.heap.size w w47)); clear HO_7; clear BK152; clear HB; have HO_7 := n0_; have BK152 := n1_; have HB := n2_; clear n0_ n1_ n2_; clear hg hw hp_))
                  go_roundg k4
                  case measure => have := HJ3.out; have := HK2.out; have := HJ14.out; have := HK4.out; omega
                  case rel => exact ⟨(y155), (wrap64 (x10_4 + 1)), rfl, H', ⟨by have := HJ3.out; have := HK2.out; have := HJ14.out; have := HK4.out; omega⟩, ⟨by (with_reducible repeat (first | apply qrA | apply qrN | apply qrD)); exact HO_7.out⟩, ⟨by exact BK152.out⟩, ⟨by repeat (first | (with_reducible first | exact HB.out | apply qbA | apply qbN | apply qb1 | refine qbS ?_ GE152.out) | exact HB.out)⟩⟩
                 ·rw [if_neg c43] at H
                  exact absurd H (by simp)
                ·rw [if_neg c42] at H
                 exact absurd H (by simp)
               ·rw [if_neg c41] at H
                have c41b0 := qdF c41
                clear c41
                have H' := aMk H
                clear H
                have hcz48_0 : wr.cell? ⟨gb152, 0, none⟩ = some (.int .i64 ((rd_T45 l2 x8_2).f0.f0)) := (blk_cell BK152.out 0).trans rfl
                have hcz48_1 : wr.cell? ⟨gb152, 1, none⟩ = some (.int .i64 ((rd_T45 l2 x8_2).f0.f1)) := (blk_cell BK152.out 1).trans rfl
                have hcz48_2 : wr.cell? ⟨gb152, 2, none⟩ = some (.int .i64 ((rd_T45 l2 x8_2).f1.f0)) := (blk_cell BK152.out 2).trans rfl
                have hcz48_3 : wr.cell? ⟨gb152, 3, none⟩ = some (.int .i64 ((rd_T45 l2 x8_2).f1.f1)) := (blk_cell BK152.out 3).trans rfl
                have hfz48_0 := qbF BK152.out 0
                have hfz48_1 := qbF BK152.out 1
                have hfz48_2 := qbF BK152.out 2
                have hfz48_3 := qbF BK152.out 3
                go_wp2
                go_roundg k4
                case measure => have := HJ3.out; have := HK2.out; have := HJ14.out; have := HK4.out; omega
                case rel => exact ⟨(x7_4), (wrap64 (x8_2 + 1)), rfl, H', ⟨by have := HJ3.out; have := HK2.out; have := HJ14.out; have := HK4.out; omega⟩, ⟨by (with_reducible repeat (first | apply qrA | apply qrN | apply qrD)); exact HO_7.out⟩, ⟨by repeat (first | (with_reducible first | exact HB.out | apply qbA | apply qbN | apply qb1 | refine qbS ?_ GE152.out) | exact HB.out)⟩⟩
         ·rw [if_neg c14] at H
          exact absurd H (by simp)
        ·rw [if_neg c13] at H
         have c13b0 := qdF c13
         clear c13
         have HC49 := aMk H; clear H
         go_upto_region 14 with (fail)
         go_cut [80] (fun v80 wc => ∃ (kq : Nat) (x80_48 : Bool), v80 = .bool x80_48 ∧ Aside0 (naskhref04_wrong.j4 kq a0 a1 x7_2 x80_48 = some r) ∧ Aside0 (kq ≤ k2) ∧ Aside0 (Kd.R Kd.bool 4 wc w.heap.size (fun _ => True) v149 x7_2) ∧ Aside0 (Below w.heap.size w wc))
         case first =>
          have H := HC49.out
          clear HC49
          by_cases c50 : a1 = 0
          ·rw [if_pos c50] at H
           have c50b0 : (a1 == 0) = true := beq_iff_eq.mpr c50
           have c50b1 : (a1 != 0) = false := bne_eq_false_iff_eq.mpr c50
           clear c50
           (first | rw [c50b0] | (simp only [i64_w, i32_w]; rw [c50b0]) | skip)
           have H' := aMk H
           clear H
           go_wp2
           go_meet
           case rel => exact ⟨_, (decide (a0 > 0)), rfl, H', ⟨by have := HJ3.out; have := HK2.out; first | omega | exact qlR _⟩, ⟨by (with_reducible repeat (first | apply qrA | apply qrN | apply qrD)); exact HO_7.out⟩, ⟨by repeat (first | (with_reducible first | exact HB.out | apply qbA | apply qbN | apply qb1) | exact HB.out)⟩⟩
          ·rw [if_neg c50] at H
           have c50b0 : (a1 == 0) = false := beq_eq_false_iff_ne.mpr c50
           have c50b1 : (a1 != 0) = true := bne_iff_ne.mpr c50
           (first | rw [c50b0] | (simp only [i64_w, i32_w]; rw [c50b0]) | skip)
           have H' := aMk H
           clear H
           go_wp2
           go_meet
           case rel => exact ⟨_, (false), rfl, H', ⟨by have := HJ3.out; have := HK2.out; first | omega | exact qlR _⟩, ⟨by (with_reducible repeat (first | apply qrA | apply qrN | apply qrD)); exact HO_7.out⟩, ⟨by repeat (first | (with_reducible first | exact HB.out | apply qbA | apply qbN | apply qb1) | exact HB.out)⟩⟩
         case rest =>
          clear HC49
          obtain ⟨kq, x80_48, rfl, HA, HJ48, HO_7, HB⟩ := hcut
          cases kq with
          | zero => exact absurd HA.out (by simp [naskhref04_wrong.j4])
          | succ kj48 =>
           have H := HA.out
           clear HA
           simp only [naskhref04_wrong.j4] at H
           by_cases c51 : x80_48 = true
           ·subst c51
            rw [if_pos rfl] at H
            obtain rfl := qoI H
            go_wp2
            go_ret
            exact ⟨rfl, by repeat (first | (with_reducible first | exact HB.out | apply qbA | apply qbN | apply qb1) | exact HB.out)⟩
           ·replace c51 := qbE.mpr c51
            subst c51
            rw [if_neg (show ¬ (false = true) by decide)] at H
            have HC52 := aMk H; clear H
            go_upto_region 16 with (fail)
            go_cut [86] (fun v86 wc => ∃ (kq : Nat) (x86_51 : Bool), v86 = .bool x86_51 ∧ Aside0 (naskhref04_wrong.j5 kq a1 x7_2 x86_51 = some r) ∧ Aside0 (kq ≤ kj48) ∧ Aside0 (Kd.R Kd.bool 4 wc w.heap.size (fun _ => True) v149 x7_2) ∧ Aside0 (Below w.heap.size w wc))
            case first =>
             have H := HC52.out
             clear HC52
             by_cases c53 : a0 = 0
             ·rw [if_pos c53] at H
              have c53b0 : (a0 == 0) = true := beq_iff_eq.mpr c53
              have c53b1 : (a0 != 0) = false := bne_eq_false_iff_eq.mpr c53
              clear c53
              (first | rw [c53b0] | (simp only [i64_w, i32_w]; rw [c53b0]) | skip)
              have H' := aMk H
              clear H
              go_wp2
              go_meet
              case rel => exact ⟨_, (decide (a1 > 0)), rfl, H', ⟨by have := HJ3.out; have := HK2.out; have := HJ48.out; first | omega | exact qlR _⟩, ⟨by (with_reducible repeat (first | apply qrA | apply qrN | apply qrD)); exact HO_7.out⟩, ⟨by repeat (first | (with_reducible first | exact HB.out | apply qbA | apply qbN | apply qb1) | exact HB.out)⟩⟩
             ·rw [if_neg c53] at H
              have c53b0 : (a0 == 0) = false := beq_eq_false_iff_ne.mpr c53
              have c53b1 : (a0 != 0) = true := bne_iff_ne.mpr c53
              (first | rw [c53b0] | (simp only [i64_w, i32_w]; rw [c53b0]) | skip)
              have H' := aMk H
              clear H
              go_wp2
              go_meet
              case rel => exact ⟨_, (false), rfl, H', ⟨by have := HJ3.out; have := HK2.out; have := HJ48.out; first | omega | exact qlR _⟩, ⟨by (with_reducible repeat (first | apply qrA | apply qrN | apply qrD)); exact HO_7.out⟩, ⟨by repeat (first | (with_reducible first | exact HB.out | apply qbA | apply qbN | apply qb1) | exact HB.out)⟩⟩
            case rest =>
             clear HC52
             obtain ⟨kq, x86_51, rfl, HA, HJ51, HO_7, HB⟩ := hcut
             cases kq with
             | zero => exact absurd HA.out (by simp [naskhref04_wrong.j5])
             | succ kj51 =>
              have H := HA.out
              clear HA
              simp only [naskhref04_wrong.j5] at H
              by_cases c54 : x86_51 = true
              ·subst c54
               rw [if_pos rfl] at H
               obtain rfl := qoI H
               go_wp2
               go_ret
               exact ⟨rfl, by repeat (first | (with_reducible first | exact HB.out | apply qbA | apply qbN | apply qb1) | exact HB.out)⟩
              ·replace c54 := qbE.mpr c54
               subst c54
               rw [if_neg (show ¬ (false = true) by decide)] at H
               have H' := aMk H
               clear H
               go_wp2
               go_loopg [11] kj51 (fun kq v11 w' => ∃ (x11_5 : Int), v11 = .int .i64 x11_5 ∧ Aside0 (naskhref04_wrong.l2 kq a1 x7_2 x11_5 = some r) ∧ Aside0 (kq ≤ kj51) ∧ Aside0 (Kd.R Kd.bool 4 w' w.heap.size (fun _ => True) v149 x7_2) ∧ Aside0 (Below w.heap.size w w'))
               case atStart => exact ⟨(0), rfl, H', ⟨qlR _⟩, ⟨by (with_reducible repeat (first | apply qrA | apply qrN | apply qrD)); exact HO_7.out⟩, ⟨by repeat (first | (with_reducible first | exact HB.out | apply qbA | apply qbN | apply qb1) | exact HB.out)⟩⟩
               case round =>
                clear H'
                obtain ⟨x11_5, rfl, HA, HK5, HO_7, HB⟩ := hrel
                cases gk with
                | zero => exact absurd HA.out (by simp [naskhref04_wrong.l2])
                | succ k5 =>
                 have H := HA.out
                 clear HA
                 simp only [naskhref04_wrong.l2] at H
                 by_cases c55 : x11_5 < a1
                 ·rw [if_pos c55] at H
                  have c55b0 := qdT c55
                  clear c55
                  by_cases c56 : 0 ≤ x11_5
                  ·rw [if_pos c56] at H
                   have c56b0 := qdT c56
                   clear c56
                   by_cases c57 : x11_5 < (x7_2.length : Int)
                   ·rw [if_pos c57] at H
                    have c57b0 := qdT c57
                    clear c57
                    obtain ⟨bq58, hbq58⟩ : ∃ b_ : Bool, b_ = (rdOf false x7_2 x11_5) := ⟨_, rfl⟩
                    replace H : (if bq58 = true then (naskhref04_wrong.l2 k5 a1 x7_2 (wrap64 (x11_5 + 1))) else (some 13)) = some r := by rw [← hbq58] at H; exact H
                    have Nbq58 := aMk hbq58; clear hbq58
                    by_cases c59 : bq58 = true
                    ·subst c59
                     rw [if_pos rfl] at H
                     have H' := aMk H
                     clear H
                     obtain ⟨Ao60, co60, eo60⟩ := Kd.R_slice HO_7.out
                     subst eo60
                     have p156 : 0 ≤ (x11_5 : Int) := qoD (by assumption)
                     have q156 : x11_5 < (x7_2.length : Int) := qoD (by assumption)
                     obtain ⟨ad156, e156, hx156_0⟩ := Kd.at_bool (Kd.R_reads' HO_7.out).2.2 x11_5 p156 q156
                     (try rw [← Nbq58.out] at hx156_0)
                     cases e156
                     replace p156 := eq_true p156
                     replace q156 := eq_true q156
                     go_wp2
                     go_roundg k5
                     case measure => have := HJ3.out; have := HK2.out; have := HJ48.out; have := HJ51.out; have := HK5.out; omega
                     case rel => exact ⟨(wrap64 (x11_5 + 1)), rfl, H', ⟨by have := HJ3.out; have := HK2.out; have := HJ48.out; have := HJ51.out; have := HK5.out; omega⟩, ⟨by (with_reducible repeat (first | apply qrA | apply qrN | apply qrD)); exact HO_7.out⟩, ⟨by repeat (first | (with_reducible first | exact HB.out | apply qbA | apply qbN | apply qb1) | exact HB.out)⟩⟩
                    ·replace c59 := qbE.mpr c59
                     subst c59
                     rw [if_neg (show ¬ (false = true) by decide)] at H
                     obtain rfl := qoI H
                     obtain ⟨Ao61, co61, eo61⟩ := Kd.R_slice HO_7.out
                     subst eo61
                     have p156 : 0 ≤ (x11_5 : Int) := qoD (by assumption)
                     have q156 : x11_5 < (x7_2.length : Int) := qoD (by assumption)
                     obtain ⟨ad156, e156, hx156_0⟩ := Kd.at_bool (Kd.R_reads' HO_7.out).2.2 x11_5 p156 q156
                     (try rw [← Nbq58.out] at hx156_0)
                     cases e156
                     replace p156 := eq_true p156
                     replace q156 := eq_true q156
                     go_wp2
                     go_ret
                     exact ⟨rfl, by repeat (first | (with_reducible first | exact HB.out | apply qbA | apply qbN | apply qb1) | exact HB.out)⟩
                   ·rw [if_neg c57] at H
                    exact absurd H (by simp)
                  ·rw [if_neg c56] at H
                   exact absurd H (by simp)
                 ·rw [if_neg c55] at H
                  have c55b0 := qdF c55
                  clear c55
                  obtain rfl := qoI H
                  go_wp2
                  go_ret
                  exact ⟨rfl, by repeat (first | (with_reducible first | exact HB.out | apply qbA | apply qbN | apply qb1) | exact HB.out)⟩
     ·rw [if_neg c10] at H
      exact absurd H (by simp)
    ·rw [if_neg c9] at H
     exact absurd H (by simp)
mutual
def naskhref04_linked.l0 : Nat → List (S45) → List Bool → Int → Option (List Bool)
 | 0, _, _, _ => none
 | k + 1, x1, x5, x6 => if x6 < (x1.length : Int) then (if 0 ≤ x6 then (naskhref04_linked.l1 k x1 x5 x6 ((rd_T45 x1 x6).f0.f0)) else (none)) else (some x5)
def naskhref04_linked.l1 : Nat → List (S45) → List Bool → Int → Int → Option (List Bool)
 | 0, _, _, _, _ => none
 | k + 1, x1, x5, x6, x7 => if 0 ≤ x6 then (if x6 < (x1.length : Int) then (if x7 < ((rd_T45 x1 x6).f0.f1) then (if 0 ≤ x7 then (if x7 < (x5.length : Int) then (naskhref04_linked.l1 k x1 (x5.set (x7 : Int).toNat true) x6 (wrap64 (x7 + 1))) else (none)) else (none)) else (naskhref04_linked.l0 k x1 x5 (wrap64 (x6 + 1)))) else (none)) else (none)
end
def naskhref04_linked.f (k : Nat) (a0 : Int) (l1 : List (S45)) : Option (List Bool) := if 0 ≤ a0 then (if (a0 : Int).toNat ≤ 281474976710656 then (naskhref04_linked.l0 k l1 (List.replicate (a0 : Int).toNat false) 0) else (none)) else (none)
theorem naskhref04_linked.calls (k : Nat) (a0 : Int) (A1 : Option Addr) (c1 : Nat) (l1 : List (S45)) (r : List Bool) (w : World) (hr1 : Kd.C k45 w A1 l1.length l1) (hc1 : l1.length ≤ c1) (h : naskhref04_linked.f k a0 l1 = some r) :
 Calls Tryz.prog 196 #[.int .i64 a0, .slice A1 l1.length c1] w fun e w' => ∃ v0_ : Value, e = .returned (v0_) ∧ Kd.R Kd.bool 4 w' w.heap.size (fun _ => True) v0_ r ∧ Below w.heap.size w w' := by
 have HR1 := aMk hr1
 have HC1 := aMk hc1
 clear hr1 hc1
 have HB := aMk (qBr w.heap.size w)
 have H : (if 0 ≤ a0 then (if (a0 : Int).toNat ≤ 281474976710656 then (naskhref04_linked.l0 k l1 (List.replicate (a0 : Int).toNat false) 0) else (none)) else (none)) = some r := h
 clear h
 by_cases c3 : 0 ≤ a0
 ·rw [if_pos c3] at H
  have c3b0 := eq_true c3
  have c3b1 : decide (0 ≤ a0) = true := qdT c3
  clear c3
  by_cases c4 : (a0 : Int).toNat ≤ 281474976710656
  ·rw [if_pos c4] at H
   have c4b0 := eq_true c4
   have c4b1 : decide ((a0 : Int).toNat ≤ 281474976710656) = true := qdT c4
   clear c4
   obtain ⟨y157, hy157⟩ : ∃ y_ : List Bool, y_ = (List.replicate (a0 : Int).toNat false) := ⟨_, rfl⟩
   replace H : (naskhref04_linked.l0 k l1 y157 0) = some r := by first | (rw [hy157]; with_reducible exact H) | (have H2_ := (qoS _ _).symm.trans H; rw [hy157]; with_reducible exact H2_) | (have H2_ := (qoS _ _).symm.trans H; with_reducible exact H2_) | with_reducible exact H | (rw [hy157]; exact H) | exact H
   have Ny157 := aMk hy157; clear hy157
   have H' := aMk H
   clear H
   go_enter Tryz.func196, Tryz.ntmps196
   go_wp2_with (first | ((with_reducible refine gate_dst (N := 9) rfl ?_); refine Kd.R_make Kd.bool _ 4 rfl (N := 9) rfl 41 _ _ rfl a0 rfl rfl Tryz.underlying41 (.bool false) 1 info4 rfl (by decide) (by omega) false (ok := fun _ => True) (okp := fun _ => True) rfl (fun _ hk => hk) trivial (qoD (by assumption)) (qlT (Nat.mul_le_mul_right _ (qoD (by assumption) : a0.toNat ≤ 281474976710656)) (by omega)) (qBr _ _) (qlR _) ?_; intro v158 w5 ho6 hb hg_ hnew_; clear hg_ hnew_; (first | rw [← Ny157.out] at ho6 | (simp only [Int.reduceToNat] at ho6; rw [← Ny157.out] at ho6)); have n0_ := aMk (Kd.R_lower ho6 (qbZ HB.out)); have n1_ := aMk (qbP HB.out hb); clear HB; have HO159 := n0_; have HB := n1_; clear n0_ n1_; clear hb ho6))
   go_loopg [6] k (fun kq v6 w' => ∃ (x5_1 : List Bool) (x6_1 : Int), v6 = .int .i64 x6_1 ∧ Aside0 (naskhref04_linked.l0 kq l1 x5_1 x6_1 = some r) ∧ Aside0 (kq ≤ k) ∧ Aside0 (Kd.R Kd.bool 4 w' w.heap.size (fun _ => True) v158 x5_1) ∧ Aside0 (Below w.heap.size w w'))
   case atStart => exact ⟨(y157), (0), rfl, H', ⟨qlR _⟩, ⟨by (with_reducible repeat (first | apply qrA | apply qrN | apply qrD)); exact HO159.out⟩, ⟨by repeat (first | (with_reducible first | exact HB.out | apply qbA | apply qbN | apply qb1) | exact HB.out)⟩⟩
   case round =>
    clear H'
    obtain ⟨x5_1, x6_1, rfl, HA, HK1, HO_5, HB⟩ := hrel
    cases gk with
    | zero => exact absurd HA.out (by simp [naskhref04_linked.l0])
    | succ k1 =>
     have H := HA.out
     clear HA
     simp only [naskhref04_linked.l0] at H
     by_cases c7 : x6_1 < (l1.length : Int)
     ·rw [if_pos c7] at H
      have c7b0 := qdT c7
      clear c7
      by_cases c8 : 0 ≤ x6_1
      ·rw [if_pos c8] at H
       have c8b0 := qdT c8
       clear c8
       have H' := aMk H
       clear H
       have p160 : 0 ≤ (x6_1 : Int) := qoD (by assumption)
       have q160 : x6_1 < (l1.length : Int) := qoD (by assumption)
       obtain ⟨ad160, e160, hx160_0, hx160_1, hx160_2, hx160_3⟩ := at_T45 HR1.out x6_1 p160 q160
       cases e160
       replace hx160_0 := (HB.out.cell (qwL w _ hx160_0)).trans hx160_0
       replace hx160_1 := (HB.out.cell (qwL w _ hx160_1)).trans hx160_1
       replace hx160_2 := (HB.out.cell (qwL w _ hx160_2)).trans hx160_2
       replace hx160_3 := (HB.out.cell (qwL w _ hx160_3)).trans hx160_3
       replace p160 := eq_true p160
       replace q160 := eq_true q160
       go_wp2
       go_loopg [7] k1 (fun kq v7 w' => ∃ (x5_2 : List Bool) (x7_2 : Int), v7 = .int .i64 x7_2 ∧ Aside0 (naskhref04_linked.l1 kq l1 x5_2 x6_1 x7_2 = some r) ∧ Aside0 (kq ≤ k1) ∧ Aside0 (Kd.R Kd.bool 4 w' w.heap.size (fun _ => True) v158 x5_2) ∧ Aside0 (Below w.heap.size w w'))
       case atStart => exact ⟨(x5_1), ((rd_T45 l1 x6_1).f0.f0), rfl, H', ⟨qlR _⟩, ⟨by (with_reducible repeat (first | apply qrA | apply qrN | apply qrD)); exact HO_5.out⟩, ⟨by repeat (first | (with_reducible first | exact HB.out | apply qbA | apply qbN | apply qb1) | exact HB.out)⟩⟩
       case round =>
        clear H'
        obtain ⟨x5_2, x7_2, rfl, HA, HK2, HO_5, HB⟩ := hrel
        cases gk with
        | zero => exact absurd HA.out (by simp [naskhref04_linked.l1])
        | succ k2 =>
         have H := HA.out
         clear HA
         simp only [naskhref04_linked.l1] at H
         by_cases c9 : 0 ≤ x6_1
         ·rw [if_pos c9] at H
          have c9b0 := qdT c9
          clear c9
          by_cases c10 : x6_1 < (l1.length : Int)
          ·rw [if_pos c10] at H
           have c10b0 := qdT c10
           clear c10
           by_cases c11 : x7_2 < ((rd_T45 l1 x6_1).f0.f1)
           ·rw [if_pos c11] at H
            have c11b0 := qdT c11
            clear c11
            by_cases c12 : 0 ≤ x7_2
            ·rw [if_pos c12] at H
             have c12b0 := qdT c12
             clear c12
             by_cases c13 : x7_2 < (x5_2.length : Int)
             ·rw [if_pos c13] at H
              have c13b0 := qdT c13
              clear c13
              obtain ⟨y162, hy162⟩ : ∃ y_ : List Bool, y_ = (x5_2.set (x7_2 : Int).toNat true) := ⟨_, rfl⟩
              replace H : (naskhref04_linked.l1 k2 l1 y162 x6_1 (wrap64 (x7_2 + 1))) = some r := by first | (rw [hy162]; with_reducible exact H) | (have H2_ := (qoS _ _).symm.trans H; rw [hy162]; with_reducible exact H2_) | (have H2_ := (qoS _ _).symm.trans H; with_reducible exact H2_) | with_reducible exact H | (rw [hy162]; exact H) | exact H
              have Ny162 := aMk hy162; clear hy162
              have H' := aMk H
              clear H
              have p161 : 0 ≤ (x6_1 : Int) := qoD (by assumption)
              have q161 : x6_1 < (l1.length : Int) := qoD (by assumption)
              obtain ⟨ad161, e161, hx161_0, hx161_1, hx161_2, hx161_3⟩ := at_T45 HR1.out x6_1 p161 q161
              obtain rfl : ad160 = ad161 := (by injection e161)
              replace hx161_0 := (HB.out.cell (qwL w _ hx161_0)).trans hx161_0
              replace hx161_1 := (HB.out.cell (qwL w _ hx161_1)).trans hx161_1
              replace hx161_2 := (HB.out.cell (qwL w _ hx161_2)).trans hx161_2
              replace hx161_3 := (HB.out.cell (qwL w _ hx161_3)).trans hx161_3
              replace p161 := eq_true p161
              replace q161 := eq_true q161
              have p14 : 0 ≤ (x7_2 : Int) := qoD (by assumption)
              have q14 : (x7_2 : Int) < ((x5_2.length : Int) : Int) := qoD (by assumption)
              obtain ⟨go14, co14, eo14, gb14, gl14, cl14, HG14⟩ := Kd.R_form HO_5.out (by omega)
              (first | cases eo14 | (injection eo14 with ea_ en_ ec_; (first | subst ea_ | (injection ea_ with ea_; subst ea_)); subst ec_; clear en_))
              have GB14 := aMk gb14
              have GG14 := aMk HG14
              clear gb14 gl14 HG14
              obtain ⟨hx14_0, hf14_0⟩ := Kd.R_celln false HO_5.out (x7_2 : Int) p14 q14
              replace p14 := eq_true p14
              replace q14 := eq_true q14
              have HP15 := Kd.R_putg HO_5.out (x7_2 : Int) true
              go_wp2_with (first | ((with_reducible refine gate_store (t := 4) (p := 34) rfl ?_); refine store_event (t := 4) (p := 34) (v := ?vo_w16) (w1 := (wr.setCell ⟨go14, (x7_2 : Int).toNat, none⟩ (.bool true))) ?hg ?ho ?hn ?hr ?_; (case ho => rfl); (case hg => rfl); (case hn => rfl); (case hr => go_simp; done); intro w16 hw; have hg : wr.grownBy w16 (some go14) := (by rw [hw]; exact HP15.2); have hp_ : Kd.R Kd.bool 4 w16 w.heap.size (fun _ => True) (.slice (some ⟨go14, 0, none⟩) x5_2.length co14) y162 := (by rw [hw, Ny162.out]; exact HP15.1); clear HP15; have n0_ := aMk (hp_); have n1_ := aMk ((by rw [hw]; exact qbS (HB.out) GB14.out : Below w.heap.size w w16)); clear HO_5; clear HB; have HO_5 := n0_; have HB := n1_; clear n0_ n1_; clear hg hw hp_))
              go_roundg k2
              case measure => have := HK1.out; have := HK2.out; omega
              case rel => exact ⟨(y162), (wrap64 (x7_2 + 1)), rfl, H', ⟨by have := HK1.out; have := HK2.out; omega⟩, ⟨by (with_reducible repeat (first | apply qrA | apply qrN | apply qrD)); exact HO_5.out⟩, ⟨by repeat (first | (with_reducible first | exact HB.out | apply qbA | apply qbN | apply qb1) | exact HB.out)⟩⟩
             ·rw [if_neg c13] at H
              exact absurd H (by simp)
            ·rw [if_neg c12] at H
             exact absurd H (by simp)
           ·rw [if_neg c11] at H
            have c11b0 := qdF c11
            clear c11
            have H' := aMk H
            clear H
            have p161 : 0 ≤ (x6_1 : Int) := qoD (by assumption)
            have q161 : x6_1 < (l1.length : Int) := qoD (by assumption)
            obtain ⟨ad161, e161, hx161_0, hx161_1, hx161_2, hx161_3⟩ := at_T45 HR1.out x6_1 p161 q161
            obtain rfl : ad160 = ad161 := (by injection e161)
            replace hx161_0 := (HB.out.cell (qwL w _ hx161_0)).trans hx161_0
            replace hx161_1 := (HB.out.cell (qwL w _ hx161_1)).trans hx161_1
            replace hx161_2 := (HB.out.cell (qwL w _ hx161_2)).trans hx161_2
            replace hx161_3 := (HB.out.cell (qwL w _ hx161_3)).trans hx161_3
            replace p161 := eq_true p161
            replace q161 := eq_true q161
            go_wp2
            go_roundg k2
            case measure => have := HK1.out; have := HK2.out; omega
            case rel => exact ⟨(x5_2), (wrap64 (x6_1 + 1)), rfl, H', ⟨by have := HK1.out; have := HK2.out; omega⟩, ⟨by (with_reducible repeat (first | apply qrA | apply qrN | apply qrD)); exact HO_5.out⟩, ⟨by repeat (first | (with_reducible first | exact HB.out | apply qbA | apply qbN | apply qb1) | exact HB.out)⟩⟩
          ·rw [if_neg c10] at H
           exact absurd H (by simp)
         ·rw [if_neg c9] at H
          exact absurd H (by simp)
      ·rw [if_neg c8] at H
       exact absurd H (by simp)
     ·rw [if_neg c7] at H
      have c7b0 := qdF c7
      clear c7
      obtain rfl := qoI H
      go_wp2
      go_ret
      exact ⟨_, rfl, by (with_reducible repeat (first | apply qrA | apply qrN | apply qrD)); exact HO_5.out, by repeat (first | (with_reducible first | exact HB.out | apply qbA | apply qbN | apply qb1) | exact HB.out)⟩
  ·rw [if_neg c4] at H
   exact absurd H (by simp)
 ·rw [if_neg c3] at H
  exact absurd H (by simp)
mutual
def naskhref04_ahead.l0 : Nat → List Bool → Int → Option ((List (S45)))
 | 0, _, _ => none
 | k + 1, x0, x3 => if x3 < (x0.length : Int) then (if 0 ≤ x3 then (if rdOf false x0 x3 = true then (naskhref04_ahead.j1 k x0 x3 (decide (x3 > 0))) else (naskhref04_ahead.j1 k x0 x3 false)) else (none)) else (some ([] : List (S45)))
def naskhref04_ahead.j1 : Nat → List Bool → Int → Bool → Option ((List (S45)))
 | 0, _, _, _ => none
 | k + 1, x0, x3, x17 => if x17 = true then (some (([(⟨(⟨0, wrap64 (x3 + 1)⟩ : S33), (⟨0, 0⟩ : S33)⟩ : S45)] : List (S45)))) else (if 0 ≤ x3 then (if x3 < (x0.length : Int) then (if rdOf false x0 x3 = true then (some ([] : List (S45))) else (naskhref04_ahead.l0 k x0 (wrap64 (x3 + 1)))) else (none)) else (none))
end
def naskhref04_ahead.f (k : Nat) (l0 : List Bool) : Option ((List (S45))) := naskhref04_ahead.l0 k l0 0
theorem naskhref04_ahead.calls (k : Nat) (A0 : Option Addr) (c0 : Nat) (l0 : List Bool) (r : List (S45)) (w : World) (hr0 : Kd.C Kd.bool w A0 l0.length l0) (hc0 : l0.length ≤ c0) (h : naskhref04_ahead.f k l0 = some r) :
 Calls Tryz.prog 197 #[.slice A0 l0.length c0] w fun e w' => ∃ v0_ : Value, e = .returned (v0_) ∧ Kd.R k45 36 w' w.heap.size (fun _ => True) v0_ r ∧ Below w.heap.size w w' := by
 have hu33 := Tryz.underlying34
 have hu45 := Tryz.underlying36
 have HR0 := aMk hr0
 have HC0 := aMk hc0
 clear hr0 hc0
 have HB := aMk (qBr w.heap.size w)
 have H : (naskhref04_ahead.l0 k l0 0) = some r := h
 clear h
 have H' := aMk H
 clear H
 go_enter Tryz.func197, Tryz.ntmps197
 go_wp2
 go_loopg [3] k (fun kq v3 w' => ∃ (x3_1 : Int), v3 = .int .i64 x3_1 ∧ Aside0 (naskhref04_ahead.l0 kq l0 x3_1 = some r) ∧ Aside0 (kq ≤ k) ∧ Aside0 (Below w.heap.size w w'))
 case atStart => exact ⟨(0), rfl, H', ⟨qlR _⟩, ⟨by repeat (first | (with_reducible first | exact HB.out | apply qbA | apply qbN | apply qb1) | exact HB.out)⟩⟩
 case round =>
  clear H'
  obtain ⟨x3_1, rfl, HA, HK1, HB⟩ := hrel
  cases gk with
  | zero => exact absurd HA.out (by simp [naskhref04_ahead.l0])
  | succ k1 =>
   have H := HA.out
   clear HA
   simp only [naskhref04_ahead.l0] at H
   by_cases c2 : x3_1 < (l0.length : Int)
   ·rw [if_pos c2] at H
    have c2b0 := qdT c2
    clear c2
    have HC3 := aMk H; clear H
    go_upto_region 4 with (fail)
    go_cut [17] (fun v17 wc => ∃ (kq : Nat) (x17_2 : Bool), v17 = .bool x17_2 ∧ Aside0 (naskhref04_ahead.j1 kq l0 x3_1 x17_2 = some r) ∧ Aside0 (kq ≤ k1) ∧ Aside0 (Below w.heap.size w wc))
    case first =>
     have H := HC3.out
     clear HC3
     by_cases c4 : 0 ≤ x3_1
     ·rw [if_pos c4] at H
      have c4b0 := qdT c4
      clear c4
      (first | rw [c4b0] | (simp only [i64_w, i32_w]; rw [c4b0]) | skip)
      obtain ⟨bq5, hbq5⟩ : ∃ b_ : Bool, b_ = (rdOf false l0 x3_1) := ⟨_, rfl⟩
      replace H : (if bq5 = true then (naskhref04_ahead.j1 k1 l0 x3_1 (decide (x3_1 > 0))) else (naskhref04_ahead.j1 k1 l0 x3_1 false)) = some r := by rw [← hbq5] at H; exact H
      have Nbq5 := aMk hbq5; clear hbq5
      by_cases c6 : bq5 = true
      ·subst c6
       rw [if_pos rfl] at H
       have H' := aMk H
       clear H
       have p163 : 0 ≤ (x3_1 : Int) := qoD (by assumption)
       have q163 : x3_1 < (l0.length : Int) := qoD (by assumption)
       obtain ⟨ad163, e163, hx163_0⟩ := Kd.at_bool HR0.out x3_1 p163 q163
       (try rw [← Nbq5.out] at hx163_0)
       cases e163
       replace hx163_0 := (HB.out.cell (qwL w _ hx163_0)).trans hx163_0
       replace p163 := eq_true p163
       replace q163 := eq_true q163
       go_wp2
       go_meet
       case rel => exact ⟨_, (decide (x3_1 > 0)), rfl, H', ⟨by have := HK1.out; first | omega | exact qlR _⟩, ⟨by repeat (first | (with_reducible first | exact HB.out | apply qbA | apply qbN | apply qb1) | exact HB.out)⟩⟩
      ·replace c6 := qbE.mpr c6
       subst c6
       rw [if_neg (show ¬ (false = true) by decide)] at H
       have H' := aMk H
       clear H
       have p163 : 0 ≤ (x3_1 : Int) := qoD (by assumption)
       have q163 : x3_1 < (l0.length : Int) := qoD (by assumption)
       obtain ⟨ad163, e163, hx163_0⟩ := Kd.at_bool HR0.out x3_1 p163 q163
       (try rw [← Nbq5.out] at hx163_0)
       cases e163
       replace hx163_0 := (HB.out.cell (qwL w _ hx163_0)).trans hx163_0
       replace p163 := eq_true p163
       replace q163 := eq_true q163
       go_wp2
       go_meet
       case rel => exact ⟨_, (false), rfl, H', ⟨by have := HK1.out; first | omega | exact qlR _⟩, ⟨by repeat (first | (with_reducible first | exact HB.out | apply qbA | apply qbN | apply qb1) | exact HB.out)⟩⟩
     ·rw [if_neg c4] at H
      exact absurd H (by simp)
    case rest =>
     clear HC3
     obtain ⟨kq, x17_2, rfl, HA, HJ2, HB⟩ := hcut
     cases kq with
     | zero => exact absurd HA.out (by simp [naskhref04_ahead.j1])
     | succ kj2 =>
      have H := HA.out
      clear HA
      simp only [naskhref04_ahead.j1] at H
      by_cases c7 : x17_2 = true
      ·subst c7
       rw [if_pos rfl] at H
       obtain ⟨y164, hy164⟩ : ∃ y_ : List (S45), y_ = (([(⟨(⟨0, wrap64 (x3_1 + 1)⟩ : S33), (⟨0, 0⟩ : S33)⟩ : S45)] : List (S45))) := ⟨_, rfl⟩
       replace H : (some y164) = some r := by first | (rw [hy164]; with_reducible exact H) | (have H2_ := (qoS _ _).symm.trans H; rw [hy164]; with_reducible exact H2_) | (have H2_ := (qoS _ _).symm.trans H; with_reducible exact H2_) | with_reducible exact H | (rw [hy164]; exact H) | exact H
       have Ny164 := aMk hy164; clear hy164
       obtain rfl := qoI H
       go_wp2_with (first | ((with_reducible refine gate_dst (N := 22) rfl ?_); refine Kd.R_lit k45 _ 36 ?hg (N := 22) ?hd (xs := ([(⟨(⟨0, wrap64 (x3_1 + 1)⟩ : S33), (⟨0, 0⟩ : S33)⟩ : S45)] : List (S45))) (inner := [.int .i64 0, .int .i64 (wrap64 (x3_1 + 1)), .int .i64 0, .int .i64 0]) (ok := fun _ => True) (okp := fun _ => True) ?hr ?hp (fun _ hk => hk) trivial (qBr _ _) (qlR _) (by simp) ?_; (case hd => rfl); (case hg => rfl); (case hr => go_simp; done); (case hp => exact (Reps.c4 (show Kd.M k45 _ _ _ (⟨(⟨0, wrap64 (x3_1 + 1)⟩ : S33), (⟨0, 0⟩ : S33)⟩ : S45) [.int .i64 0, .int .i64 (wrap64 (x3_1 + 1)), .int .i64 0, .int .i64 0] from (k45_mkM _ _ _ (⟨(⟨0, wrap64 (x3_1 + 1)⟩ : S33), (⟨0, 0⟩ : S33)⟩ : S45) )) (Reps.none _ _))); intro v165 w8 ho9 hb hg_ hnew_; clear hg_ hnew_; (first | rw [← Ny164.out] at ho9 | (simp only [Int.reduceToNat] at ho9; rw [← Ny164.out] at ho9)); have n0_ := aMk (Kd.R_lower ho9 (qbZ HB.out)); have n1_ := aMk (qbP HB.out hb); clear HB; have HO166 := n0_; have HB := n1_; clear n0_ n1_; clear hb ho9))
       go_ret
       exact ⟨_, rfl, by (with_reducible repeat (first | apply qrA | apply qrN | apply qrD)); exact HO166.out, by repeat (first | (with_reducible first | exact HB.out | apply qbA | apply qbN | apply qb1) | exact HB.out)⟩
      ·replace c7 := qbE.mpr c7
       subst c7
       rw [if_neg (show ¬ (false = true) by decide)] at H
       by_cases c10 : 0 ≤ x3_1
       ·rw [if_pos c10] at H
        have c10b0 := qdT c10
        clear c10
        by_cases c11 : x3_1 < (l0.length : Int)
        ·rw [if_pos c11] at H
         have c11b0 := qdT c11
         clear c11
         obtain ⟨bq12, hbq12⟩ : ∃ b_ : Bool, b_ = (rdOf false l0 x3_1) := ⟨_, rfl⟩
         replace H : (if bq12 = true then (some ([] : List (S45))) else (naskhref04_ahead.l0 kj2 l0 (wrap64 (x3_1 + 1)))) = some r := by rw [← hbq12] at H; exact H
         have Nbq12 := aMk hbq12; clear hbq12
         by_cases c13 : bq12 = true
         ·subst c13
          rw [if_pos rfl] at H
          obtain rfl := qoI H
          have p167 : 0 ≤ (x3_1 : Int) := qoD (by assumption)
          have q167 : x3_1 < (l0.length : Int) := qoD (by assumption)
          obtain ⟨ad167, e167, hx167_0⟩ := Kd.at_bool HR0.out x3_1 p167 q167
          (try rw [← Nbq12.out] at hx167_0)
          cases e167
          replace hx167_0 := (HB.out.cell (qwL w _ hx167_0)).trans hx167_0
          replace p167 := eq_true p167
          replace q167 := eq_true q167
          go_wp2
          go_ret
          exact ⟨_, rfl, by first | exact Kd.R_nil _ _ _ _ _ | exact Kd.N_nil _ _ _ _ _ | exact Kd.V_nil _ _ _ _ _ | exact Kd.Q_nil _ _ _ _ _ | exact Kd.S_nil _ _ _ _ _, by repeat (first | (with_reducible first | exact HB.out | apply qbA | apply qbN | apply qb1) | exact HB.out)⟩
         ·replace c13 := qbE.mpr c13
          subst c13
          rw [if_neg (show ¬ (false = true) by decide)] at H
          have H' := aMk H
          clear H
          have p167 : 0 ≤ (x3_1 : Int) := qoD (by assumption)
          have q167 : x3_1 < (l0.length : Int) := qoD (by assumption)
          obtain ⟨ad167, e167, hx167_0⟩ := Kd.at_bool HR0.out x3_1 p167 q167
          (try rw [← Nbq12.out] at hx167_0)
          cases e167
          replace hx167_0 := (HB.out.cell (qwL w _ hx167_0)).trans hx167_0
          replace p167 := eq_true p167
          replace q167 := eq_true q167
          go_wp2
          go_roundg kj2
          case measure => have := HK1.out; have := HJ2.out; omega
          case rel => exact ⟨(wrap64 (x3_1 + 1)), rfl, H', ⟨by have := HK1.out; have := HJ2.out; omega⟩, ⟨by repeat (first | (with_reducible first | exact HB.out | apply qbA | apply qbN | apply qb1) | exact HB.out)⟩⟩
        ·rw [if_neg c11] at H
         exact absurd H (by simp)
       ·rw [if_neg c10] at H
        exact absurd H (by simp)
   ·rw [if_neg c2] at H
    have c2b0 := qdF c2
    clear c2
    obtain rfl := qoI H
    go_wp2
    go_ret
    exact ⟨_, rfl, by first | exact Kd.R_nil _ _ _ _ _ | exact Kd.N_nil _ _ _ _ _ | exact Kd.V_nil _ _ _ _ _ | exact Kd.Q_nil _ _ _ _ _ | exact Kd.S_nil _ _ _ _ _, by repeat (first | (with_reducible first | exact HB.out | apply qbA | apply qbN | apply qb1) | exact HB.out)⟩
def naskhref04_least.l0 : Nat → List Int → Int → Int → Int → Int → Option (Int)
 | 0, _, _, _, _, _ => none
 | k + 1, x0, x5, x6, x169000, x169001 => if x6 < x169001 then (if 0 ≤ x6 then (if x6 < (x0.length : Int) then (naskhref04_least.l0 k x0 (mn x5 (rd x0 x6)) (wrap64 (x6 + 1)) x169000 x169001) else (none)) else (none)) else (some x5)
def naskhref04_least.f (k : Nat) (l0 : List Int) (a1_0 : Int) (a1_1 : Int) : Option (Int) := if 0 ≤ a1_0 then (if a1_0 < (l0.length : Int) then (naskhref04_least.l0 k l0 (rd l0 a1_0) a1_0 a1_0 a1_1) else (none)) else (none)
theorem naskhref04_least.calls (k : Nat) (A0 : Option Addr) (c0 : Nat) (l0 : List Int) (a1_0 : Int) (a1_1 : Int) (r : Int) (w : World) (hr0 : Kd.C (Kd.int .i64) w A0 l0.length l0) (hc0 : l0.length ≤ c0) (h : naskhref04_least.f k l0 a1_0 a1_1 = some r) :
 Calls Tryz.prog 254 #[.slice A0 l0.length c0, .agg #[.int .i64 a1_0, .int .i64 a1_1]] w fun e w' => e = .returned (.int .i64 r) ∧ Below w.heap.size w w' := by
 have hu33 := Tryz.underlying34
 have HR0 := aMk hr0
 have HC0 := aMk hc0
 clear hr0 hc0
 have HB := aMk (qBr w.heap.size w)
 have H : (if 0 ≤ a1_0 then (if a1_0 < (l0.length : Int) then (naskhref04_least.l0 k l0 (rd l0 a1_0) a1_0 a1_0 a1_1) else (none)) else (none)) = some r := h
 clear h
 by_cases c3 : 0 ≤ a1_0
 ·rw [if_pos c3] at H
  have c3b0 := qdT c3
  clear c3
  by_cases c4 : a1_0 < (l0.length : Int)
  ·rw [if_pos c4] at H
   have c4b0 := qdT c4
   clear c4
   have H' := aMk H
   clear H
   go_enter Tryz.func254, Tryz.ntmps254
   go_wp2_with (first | ((with_reducible refine gate_dst (N := 3) rfl ?_); refine box_event ?hg (N := 3) ?hd (cs := #[.int .i64 a1_0, .int .i64 a1_1]) (t := 34) ?hr ?_; (case hd => rfl); (case hg => rfl); (case hr => go_simp; done); intro gb168 hg w5 hbox hb; have n0_ := aMk (qbP HB.out hb); have n1_ := aMk (hbox); have n2_ := aMk ((by rw [hg]; exact (qbZ HB.out) : w.heap.size ≤ gb168)); have n3_ := aMk ((by rw [hg]; exact (qbZ HB.out) : w.heap.size ≤ gb168)); clear HB; have HB := n0_; have BK168 := n1_; have GW168 := n2_; have GE168 := n3_; clear n0_ n1_ n2_ n3_; clear hb hbox hg; have hcz6_0 : w5.cell? ⟨gb168, 0, none⟩ = some (.int .i64 a1_0) := (blk_cell BK168.out 0).trans rfl; have hcz6_1 : w5.cell? ⟨gb168, 1, none⟩ = some (.int .i64 a1_1) := (blk_cell BK168.out 1).trans rfl; have hfz6_0 := qbF BK168.out 0; have hfz6_1 := qbF BK168.out 1; have p169 : 0 ≤ (a1_0 : Int) := qoD (by assumption); have q169 : a1_0 < (l0.length : Int) := qoD (by assumption); obtain ⟨ad169, e169, hx169_0⟩ := Kd.at_int HR0.out a1_0 p169 q169; cases e169; replace hx169_0 := (HB.out.cell (qwL w _ hx169_0)).trans hx169_0; replace p169 := eq_true p169; replace q169 := eq_true q169))
   go_loopg [5, 6] k (fun kq v5 v6 w' => ∃ (x5_1 : Int) (x6_1 : Int), v5 = .int .i64 x5_1 ∧ v6 = .int .i64 x6_1 ∧ Aside0 (naskhref04_least.l0 kq l0 x5_1 x6_1 a1_0 a1_1 = some r) ∧ Aside0 (kq ≤ k) ∧ Aside0 (w'.heap[gb168]? = some (.cells #[.int .i64 a1_0, .int .i64 a1_1] 34 (0, 0))) ∧ Aside0 (Below w.heap.size w w'))
   case atStart => exact ⟨(rd l0 a1_0), (a1_0), rfl, rfl, H', ⟨qlR _⟩, ⟨by exact BK168.out⟩, ⟨by repeat (first | (with_reducible first | exact HB.out | apply qbA | apply qbN | apply qb1 | refine qbS ?_ GE168.out) | exact HB.out)⟩⟩
   case round =>
    clear H'
    obtain ⟨x5_1, x6_1, rfl, rfl, HA, HK1, BK168, HB⟩ := hrel
    cases gk with
    | zero => exact absurd HA.out (by simp [naskhref04_least.l0])
    | succ k1 =>
     have H := HA.out
     clear HA
     simp only [naskhref04_least.l0] at H
     by_cases c7 : x6_1 < a1_1
     ·rw [if_pos c7] at H
      have c7b0 := qdT c7
      clear c7
      by_cases c8 : 0 ≤ x6_1
      ·rw [if_pos c8] at H
       have c8b0 := qdT c8
       clear c8
       by_cases c9 : x6_1 < (l0.length : Int)
       ·rw [if_pos c9] at H
        have c9b0 := qdT c9
        clear c9
        obtain ⟨ji10, hji10⟩ : ∃ j_ : Int, (mn x5_1 (rd l0 x6_1)) = j_ := ⟨_, rfl⟩
        replace H : (naskhref04_least.l0 k1 l0 ji10 (wrap64 (x6_1 + 1)) a1_0 a1_1) = some r := by first | (rw [hji10] at H; exact H) | (simp only [hji10] at H ⊢; exact H)
        have hji10_ : (if (rd l0 x6_1) < x5_1 then (rd l0 x6_1) else x5_1) = ji10 := hji10
        have H' := aMk H
        clear H
        have hcz11_0 : wr.cell? ⟨gb168, 0, none⟩ = some (.int .i64 a1_0) := (blk_cell BK168.out 0).trans rfl
        have hcz11_1 : wr.cell? ⟨gb168, 1, none⟩ = some (.int .i64 a1_1) := (blk_cell BK168.out 1).trans rfl
        have hfz11_0 := qbF BK168.out 0
        have hfz11_1 := qbF BK168.out 1
        have p170 : 0 ≤ (x6_1 : Int) := qoD (by assumption)
        have q170 : x6_1 < (l0.length : Int) := qoD (by assumption)
        obtain ⟨ad170, e170, hx170_0⟩ := Kd.at_int HR0.out x6_1 p170 q170
        obtain rfl : ad169 = ad170 := (by injection e170)
        replace hx170_0 := (HB.out.cell (qwL w _ hx170_0)).trans hx170_0
        replace p170 := eq_true p170
        replace q170 := eq_true q170
        go_wp2
        go_roundg k1
        case measure => have := HK1.out; omega
        case rel => exact ⟨(ji10), (wrap64 (x6_1 + 1)), (by first | rfl | (simp; done) | (simp only [← hji10] <;> (first | rfl | simp)) | (simp [*]; done)), rfl, H', ⟨by have := HK1.out; omega⟩, ⟨by exact BK168.out⟩, ⟨by repeat (first | (with_reducible first | exact HB.out | apply qbA | apply qbN | apply qb1 | refine qbS ?_ GE168.out) | exact HB.out)⟩⟩
       ·rw [if_neg c9] at H
        exact absurd H (by simp)
      ·rw [if_neg c8] at H
       exact absurd H (by simp)
     ·rw [if_neg c7] at H
      have c7b0 := qdF c7
      clear c7
      obtain rfl := qoI H
      have hcz12_0 : wr.cell? ⟨gb168, 0, none⟩ = some (.int .i64 a1_0) := (blk_cell BK168.out 0).trans rfl
      have hcz12_1 : wr.cell? ⟨gb168, 1, none⟩ = some (.int .i64 a1_1) := (blk_cell BK168.out 1).trans rfl
      have hfz12_0 := qbF BK168.out 0
      have hfz12_1 := qbF BK168.out 1
      go_wp2
      go_ret
      exact ⟨rfl, by repeat (first | (with_reducible first | exact HB.out | apply qbA | apply qbN | apply qb1 | refine qbS ?_ GE168.out) | exact HB.out)⟩
  ·rw [if_neg c4] at H
   exact absurd H (by simp)
 ·rw [if_neg c3] at H
  exact absurd H (by simp)
def naskhref04_same.l0 : Nat → List Int → Int → Bool → Int → Int → Int → Option (Bool × List Int)
 | 0, _, _, _, _, _, _ => none
 | k + 1, x0, x2, x7, x8, x172000, x172001 => if x8 < x172001 then (if 0 ≤ x8 then (if x8 < (x0.length : Int) then (if (rd x0 x8) = x2 then (naskhref04_same.l0 k x0 x2 x7 (wrap64 (x8 + 1)) x172000 x172001) else (naskhref04_same.l0 k (x0.set (x8 : Int).toNat x2) x2 true (wrap64 (x8 + 1)) x172000 x172001)) else (none)) else (none)) else (some (x7, x0))
def naskhref04_same.f (k : Nat) (l0 : List Int) (a1_0 : Int) (a1_1 : Int) (a2 : Int) : Option (Bool × List Int) := naskhref04_same.l0 k l0 a2 false a1_0 a1_0 a1_1
theorem naskhref04_same.calls (k : Nat) (P0_ : Nat → Prop) (u9000_ : Value) (l0 : List Int) (a1_0 : Int) (a1_1 : Int) (a2 : Int) (r1 : Bool) (r2 : List Int) (w0 w : World) (hB : Below w0.heap.size w0 w) (ho0 : Kd.R (Kd.int .i64) 3 w w0.heap.size P0_ u9000_ l0) (h : naskhref04_same.f k l0 a1_0 a1_1 a2 = some (r1, r2)) :
 Calls Tryz.prog 255 #[u9000_, .agg #[.int .i64 a1_0, .int .i64 a1_1], .int .i64 a2] w fun e w' => e = .returned (.bool r1) ∧ Kd.R (Kd.int .i64) 3 w' w0.heap.size (fun k_ => (P0_ k_ ∨ w.heap.size ≤ k_)) u9000_ r2 ∧ Below w0.heap.size w0 w' ∧ Kept w w' (fun k_ => P0_ k_) := by
 have hu33 := Tryz.underlying34
 have HO0 := aMk (show Kd.R (Kd.int .i64) 3 w w0.heap.size (fun k_ => (P0_ k_ ∨ w.heap.size ≤ k_)) u9000_ l0 from qrM ho0 (fun k_ hk => (.inl hk)))
 have HK := aMk (Kept.refl w (fun k_ => P0_ k_))
 have HW0 := aMk hB.size
 have HB := aMk hB; clear hB
 have H : (naskhref04_same.l0 k l0 a2 false a1_0 a1_0 a1_1) = some (r1, r2) := h
 clear h
 have H' := aMk H
 clear H
 go_enter Tryz.func255, Tryz.ntmps255
 go_wp2_with (first | ((with_reducible refine gate_dst (N := 4) rfl ?_); refine box_event ?hg (N := 4) ?hd (cs := #[.int .i64 a1_0, .int .i64 a1_1]) (t := 34) ?hr ?_; (case hd => rfl); (case hg => rfl); (case hr => go_simp; done); intro gb171 hg w4 hbox hb; have n0_ := aMk (qrB HO0.out hb); have n1_ := aMk (Kept.below (S := (fun k_ => P0_ k_)) HK.out hb); have n2_ := aMk (qbP HB.out hb); have n3_ := aMk (hbox); have n4_ := aMk ((by rw [hg]; exact (by first | exact HK.out.1 | exact (show Kept w _ (fun k_ => P0_ k_) from by repeat (first | (with_reducible first | exact HK.out | apply Kept.alloc | apply Kept.drewN | apply Kept.drew) | exact HK.out)).1) : w.heap.size ≤ gb171)); have n5_ := aMk ((by rw [hg]; exact (qbZ HB.out) : w0.heap.size ≤ gb171)); clear HO0; clear HK; clear HB; have HO0 := n0_; have HK := n1_; have HB := n2_; have BK171 := n3_; have GW171 := n4_; have GE171 := n5_; clear n0_ n1_ n2_ n3_ n4_ n5_; clear hb hbox hg; have hcz5_0 : w4.cell? ⟨gb171, 0, none⟩ = some (.int .i64 a1_0) := (blk_cell BK171.out 0).trans rfl; have hcz5_1 : w4.cell? ⟨gb171, 1, none⟩ = some (.int .i64 a1_1) := (blk_cell BK171.out 1).trans rfl; have hfz5_0 := qbF BK171.out 0; have hfz5_1 := qbF BK171.out 1))
 go_loopg [7, 8] k (fun kq v7 v8 w' => ∃ (x0_1 : List Int) (x7_1 : Bool) (x8_1 : Int), v7 = .bool x7_1 ∧ v8 = .int .i64 x8_1 ∧ Aside0 (naskhref04_same.l0 kq x0_1 a2 x7_1 x8_1 a1_0 a1_1 = some (r1, r2)) ∧ Aside0 (kq ≤ k) ∧ Aside0 (Kd.R (Kd.int .i64) 3 w' w0.heap.size (fun k_ => (P0_ k_ ∨ w.heap.size ≤ k_)) u9000_ x0_1) ∧ Aside0 (w'.heap[gb171]? = some (.cells #[.int .i64 a1_0, .int .i64 a1_1] 34 (0, 0))) ∧ Aside0 (Kept w w' (fun k_ => P0_ k_)) ∧ Aside0 (Below w0.heap.size w0 w'))
 case atStart => exact ⟨(l0), (false), (a1_0), rfl, rfl, H', ⟨qlR _⟩, ⟨by (with_reducible repeat (first | apply qrA | apply qrN | apply qrD)); exact HO0.out⟩, ⟨by exact BK171.out⟩, ⟨by repeat (first | (with_reducible first | exact HK.out | apply Kept.alloc | apply Kept.drewN | apply Kept.drew | refine Kept.setCell ?_ (.inr GW171.out) _) | exact HK.out)⟩, ⟨by repeat (first | (with_reducible first | exact HB.out | apply qbA | apply qbN | apply qb1 | refine qbS ?_ GE171.out) | exact HB.out)⟩⟩
 case round =>
  clear H'
  obtain ⟨x0_1, x7_1, x8_1, rfl, rfl, HA, HK1, HO_0, BK171, HK, HB⟩ := hrel
  cases gk with
  | zero => exact absurd HA.out (by simp [naskhref04_same.l0])
  | succ k1 =>
   have H := HA.out
   clear HA
   simp only [naskhref04_same.l0] at H
   by_cases c6 : x8_1 < a1_1
   ·rw [if_pos c6] at H
    have c6b0 := qdT c6
    clear c6
    by_cases c7 : 0 ≤ x8_1
    ·rw [if_pos c7] at H
     have c7b0 := qdT c7
     clear c7
     by_cases c8 : x8_1 < (x0_1.length : Int)
     ·rw [if_pos c8] at H
      have c8b0 := qdT c8
      clear c8
      by_cases c9 : (rd x0_1 x8_1) = a2
      ·rw [if_pos c9] at H
       have c9b0 : ((rd x0_1 x8_1) == a2) = true := beq_iff_eq.mpr c9
       have c9b1 : ((rd x0_1 x8_1) != a2) = false := bne_eq_false_iff_eq.mpr c9
       clear c9
       have H' := aMk H
       clear H
       have hcz10_0 : wr.cell? ⟨gb171, 0, none⟩ = some (.int .i64 a1_0) := (blk_cell BK171.out 0).trans rfl
       have hcz10_1 : wr.cell? ⟨gb171, 1, none⟩ = some (.int .i64 a1_1) := (blk_cell BK171.out 1).trans rfl
       have hfz10_0 := qbF BK171.out 0
       have hfz10_1 := qbF BK171.out 1
       obtain ⟨Ao11, co11, eo11⟩ := Kd.R_slice HO_0.out
       subst eo11
       have p172 : 0 ≤ (x8_1 : Int) := qoD (by assumption)
       have q172 : x8_1 < (x0_1.length : Int) := qoD (by assumption)
       obtain ⟨ad172, e172, hx172_0⟩ := Kd.at_int (Kd.R_reads' HO_0.out).2.2 x8_1 p172 q172
       cases e172
       replace p172 := eq_true p172
       replace q172 := eq_true q172
       go_wp2
       go_roundg k1
       case measure => have := HK1.out; omega
       case rel => exact ⟨(x0_1), (x7_1), (wrap64 (x8_1 + 1)), rfl, rfl, H', ⟨by have := HK1.out; omega⟩, ⟨by (with_reducible repeat (first | apply qrA | apply qrN | apply qrD)); exact HO_0.out⟩, ⟨by exact BK171.out⟩, ⟨by repeat (first | (with_reducible first | exact HK.out | apply Kept.alloc | apply Kept.drewN | apply Kept.drew | refine Kept.setCell ?_ (.inr GW171.out) _) | exact HK.out)⟩, ⟨by repeat (first | (with_reducible first | exact HB.out | apply qbA | apply qbN | apply qb1 | refine qbS ?_ GE171.out) | exact HB.out)⟩⟩
      ·rw [if_neg c9] at H
       have c9b0 : ((rd x0_1 x8_1) == a2) = false := beq_eq_false_iff_ne.mpr c9
       have c9b1 : ((rd x0_1 x8_1) != a2) = true := bne_iff_ne.mpr c9
       obtain ⟨y173, hy173⟩ : ∃ y_ : List Int, y_ = (x0_1.set (x8_1 : Int).toNat a2) := ⟨_, rfl⟩
       replace H : (naskhref04_same.l0 k1 y173 a2 true (wrap64 (x8_1 + 1)) a1_0 a1_1) = some (r1, r2) := by first | (rw [hy173]; with_reducible exact H) | (have H2_ := (qoS _ _).symm.trans H; rw [hy173]; with_reducible exact H2_) | (have H2_ := (qoS _ _).symm.trans H; with_reducible exact H2_) | with_reducible exact H | (rw [hy173]; exact H) | exact H
       have Ny173 := aMk hy173; clear hy173
       have H' := aMk H
       clear H
       have hcz13_0 : wr.cell? ⟨gb171, 0, none⟩ = some (.int .i64 a1_0) := (blk_cell BK171.out 0).trans rfl
       have hcz13_1 : wr.cell? ⟨gb171, 1, none⟩ = some (.int .i64 a1_1) := (blk_cell BK171.out 1).trans rfl
       have hfz13_0 := qbF BK171.out 0
       have hfz13_1 := qbF BK171.out 1
       obtain ⟨Ao14, co14, eo14⟩ := Kd.R_slice HO_0.out
       subst eo14
       have p172 : 0 ≤ (x8_1 : Int) := qoD (by assumption)
       have q172 : x8_1 < (x0_1.length : Int) := qoD (by assumption)
       obtain ⟨ad172, e172, hx172_0⟩ := Kd.at_int (Kd.R_reads' HO_0.out).2.2 x8_1 p172 q172
       cases e172
       replace p172 := eq_true p172
       replace q172 := eq_true q172
       have p12 : 0 ≤ (x8_1 : Int) := qoD (by assumption)
       have q12 : (x8_1 : Int) < ((x0_1.length : Int) : Int) := qoD (by assumption)
       obtain ⟨go12, co12, eo12, gb12, gl12, cl12, HG12⟩ := Kd.R_form HO_0.out (by omega)
       (first | cases eo12 | (injection eo12 with ea_ en_ ec_; (first | subst ea_ | (injection ea_ with ea_; subst ea_)); subst ec_; clear en_))
       have GB12 := aMk gb12
       have GG12 := aMk HG12
       clear gb12 gl12 HG12
       have HMgo12 := aMk (show (P0_ go12 ∨ w.heap.size ≤ go12) from (HO_0.out.1 _ rfl))
       (first | simp only [add_plain] at hx172_0 | skip)
       obtain ⟨hx12_0, hf12_0⟩ := Kd.R_celln 0 HO_0.out (x8_1 : Int) p12 q12
       replace p12 := eq_true p12
       replace q12 := eq_true q12
       have HP15 := Kd.R_putg HO_0.out (x8_1 : Int) a2
       go_wp2_with (first | ((with_reducible refine gate_store (t := 3) (p := 26) rfl ?_); refine store_event (t := 3) (p := 26) (v := ?vo_w16) (w1 := (wr.setCell ⟨go12, (x8_1 : Int).toNat, none⟩ (.int .i64 a2))) ?hg ?ho ?hn ?hr ?_; (case ho => rfl); (case hg => rfl); (case hn => rfl); (case hr => go_simp; done); intro w16 hw; have hg : wr.grownBy w16 (some go12) := (by rw [hw]; exact HP15.2); have hp_ : Kd.R (Kd.int .i64) 3 w16 w0.heap.size (fun k_ => (P0_ k_ ∨ w.heap.size ≤ k_)) (.slice (some ⟨go12, 0, none⟩) x0_1.length co14) y173 := (by rw [hw, Ny173.out]; exact HP15.1); clear HP15; have n0_ := aMk (hp_); have n1_ := aMk (blk_grown (g := gb171) (o := .cells #[.int .i64 a1_0, .int .i64 a1_1] 34 (0, 0)) (by exact BK171.out) hg (Kd.R_ne HO_0.out BK171.out (by decide))); have n2_ := aMk ((by rw [hw]; exact qbS (HB.out) GB12.out : Below w0.heap.size w0 w16)); have n3_ := aMk (Kept.of_grown (S := (fun k_ => P0_ k_)) hg HK.out (fun k_ e_ => (HO_0.out.1 k_ e_))); clear HO_0; clear BK171; clear HB; clear HK; have HO_0 := n0_; have BK171 := n1_; have HB := n2_; have HK := n3_; clear n0_ n1_ n2_ n3_; clear hg hw hp_))
       go_roundg k1
       case measure => have := HK1.out; omega
       case rel => exact ⟨(y173), (true), (wrap64 (x8_1 + 1)), rfl, rfl, H', ⟨by have := HK1.out; omega⟩, ⟨by (with_reducible repeat (first | apply qrA | apply qrN | apply qrD)); exact HO_0.out⟩, ⟨by exact BK171.out⟩, ⟨by repeat (first | (with_reducible first | exact HK.out | apply Kept.alloc | apply Kept.drewN | apply Kept.drew | refine Kept.setCell ?_ (.inr GW171.out) _) | exact HK.out)⟩, ⟨by repeat (first | (with_reducible first | exact HB.out | apply qbA | apply qbN | apply qb1 | refine qbS ?_ GE171.out) | exact HB.out)⟩⟩
     ·rw [if_neg c8] at H
      exact absurd H (by simp)
    ·rw [if_neg c7] at H
     exact absurd H (by simp)
   ·rw [if_neg c6] at H
    have c6b0 := qdF c6
    clear c6
    simp only [Option.some.injEq, Prod.mk.injEq] at H
    obtain ⟨rfl, rfl⟩ := H
    have hcz17_0 : wr.cell? ⟨gb171, 0, none⟩ = some (.int .i64 a1_0) := (blk_cell BK171.out 0).trans rfl
    have hcz17_1 : wr.cell? ⟨gb171, 1, none⟩ = some (.int .i64 a1_1) := (blk_cell BK171.out 1).trans rfl
    have hfz17_0 := qbF BK171.out 0
    have hfz17_1 := qbF BK171.out 1
    go_wp2
    go_ret
    exact ⟨rfl, by (with_reducible repeat (first | apply qrA | apply qrN | apply qrD)); exact HO_0.out, by repeat (first | (with_reducible first | exact HB.out | apply qbA | apply qbN | apply qb1 | refine qbS ?_ GE171.out) | exact HB.out), by repeat (first | (with_reducible first | exact HK.out | apply Kept.alloc | apply Kept.drewN | apply Kept.drew | refine Kept.setCell ?_ (.inr GW171.out) _) | exact HK.out)⟩
def naskhref04_hull.l0 : Nat → List Int → Int → Int → Int → Int → Option (Int × Int)
 | 0, _, _, _, _, _ => none
 | k + 1, x0, x1, x6, x176000, x176001 => if x6 < (x0.length : Int) then (if 0 ≤ x6 then (if (rd x0 x6) = x1 then (if x176001 = 0 then (naskhref04_hull.l0 k x0 x1 (wrap64 (x6 + 1)) x6 (wrap64 (x6 + 1))) else (naskhref04_hull.l0 k x0 x1 (wrap64 (x6 + 1)) x176000 (wrap64 (x6 + 1)))) else (naskhref04_hull.l0 k x0 x1 (wrap64 (x6 + 1)) x176000 x176001)) else (none)) else (some (x176000, x176001))
def naskhref04_hull.f (k : Nat) (l0 : List Int) (a1 : Int) : Option (Int × Int) := naskhref04_hull.l0 k l0 a1 0 0 0
theorem naskhref04_hull.calls (k : Nat) (A0 : Option Addr) (c0 : Nat) (l0 : List Int) (a1 : Int) (r1 : Int) (r2 : Int) (w : World) (hr0 : Kd.C (Kd.int .i64) w A0 l0.length l0) (hc0 : l0.length ≤ c0) (h : naskhref04_hull.f k l0 a1 = some (r1, r2)) :
 Calls Tryz.prog 199 #[.slice A0 l0.length c0, .int .i64 a1] w fun e w' => e = .returned (.agg #[.int .i64 r1, .int .i64 r2]) ∧ Below w.heap.size w w' := by
 have hu33 := Tryz.underlying34
 have HR0 := aMk hr0
 have HC0 := aMk hc0
 clear hr0 hc0
 have HB := aMk (qBr w.heap.size w)
 have H : (naskhref04_hull.l0 k l0 a1 0 0 0) = some (r1, r2) := h
 clear h
 have H' := aMk H
 clear H
 go_enter Tryz.func199, Tryz.ntmps199
 go_wp2_with (first | ((with_reducible refine gate_dst (N := 4) rfl ?_); refine box_event ?hg (N := 4) ?hd (cs := #[.int .i64 0, .int .i64 0]) (t := 34) ?hr ?_; (case hd => rfl); (case hg => rfl); (case hr => go_simp; done); intro gb174 hg w3 hbox hb; have n0_ := aMk (qbP HB.out hb); have n1_ := aMk (hbox); have n2_ := aMk ((by rw [hg]; exact (qbZ HB.out) : w.heap.size ≤ gb174)); have n3_ := aMk ((by rw [hg]; exact (qbZ HB.out) : w.heap.size ≤ gb174)); clear HB; have HB := n0_; have BK174 := n1_; have GW174 := n2_; have GE174 := n3_; clear n0_ n1_ n2_ n3_; clear hb hbox hg) | ((with_reducible refine gate_dst (N := 5) rfl ?_); refine box_event ?hg (N := 5) ?hd (cs := #[.int .i64 0, .int .i64 0]) (t := 34) ?hr ?_; (case hd => rfl); (case hg => rfl); (case hr => go_simp; done); intro gb175 hg w4 hbox hb; have n0_ := aMk (blk_below (g := gb174) (o := .cells #[.int .i64 0, .int .i64 0] 34 (0, 0)) (by exact BK174.out) hb); have n1_ := aMk (qbP HB.out hb); have n2_ := aMk (hbox); have n3_ := aMk ((by rw [hg]; exact (qbZ HB.out) : w.heap.size ≤ gb175)); have n4_ := aMk ((by rw [hg]; exact (qbZ HB.out) : w.heap.size ≤ gb175)); have n5_ := aMk ((by rw [hg]; exact Nat.ne_of_lt (blk_lt (g := gb174) (o := .cells #[.int .i64 0, .int .i64 0] 34 (0, 0)) (by exact BK174.out)) : gb174 ≠ gb175)); have n6_ := aMk ((by rw [hg]; exact Nat.ne_of_gt (blk_lt (g := gb174) (o := .cells #[.int .i64 0, .int .i64 0] 34 (0, 0)) (by exact BK174.out)) : gb175 ≠ gb174)); clear BK174; clear HB; have BK174 := n0_; have HB := n1_; have BK175 := n2_; have GW175 := n3_; have GE175 := n4_; have NB174_175 := n5_; have NB175_174 := n6_; clear n0_ n1_ n2_ n3_ n4_ n5_ n6_; clear hb hbox hg))
 go_loopg [6] k (fun kq v6 w' => ∃ (x6_1 : Int) (x176000_1 : Int) (x176001_1 : Int), v6 = .int .i64 x6_1 ∧ Aside0 (naskhref04_hull.l0 kq l0 a1 x6_1 x176000_1 x176001_1 = some (r1, r2)) ∧ Aside0 (kq ≤ k) ∧ Aside0 (w'.heap[gb174]? = some (.cells #[.int .i64 0, .int .i64 0] 34 (0, 0))) ∧ Aside0 (w'.heap[gb175]? = some (.cells #[.int .i64 x176000_1, .int .i64 x176001_1] 34 (0, 0))) ∧ Aside0 (Below w.heap.size w w'))
 case atStart => exact ⟨(0), (0), (0), rfl, H', ⟨qlR _⟩, ⟨by exact BK174.out⟩, ⟨by exact BK175.out⟩, ⟨by repeat (first | (with_reducible first | exact HB.out | apply qbA | apply qbN | apply qb1 | refine qbS ?_ GE174.out | refine qbS ?_ GE175.out) | exact HB.out)⟩⟩
 case round =>
  clear H'
  obtain ⟨x6_1, x176000_1, x176001_1, rfl, HA, HK1, BK174, BK175, HB⟩ := hrel
  cases gk with
  | zero => exact absurd HA.out (by simp [naskhref04_hull.l0])
  | succ k1 =>
   have H := HA.out
   clear HA
   simp only [naskhref04_hull.l0] at H
   by_cases c5 : x6_1 < (l0.length : Int)
   ·rw [if_pos c5] at H
    have c5b0 := qdT c5
    clear c5
    by_cases c6 : 0 ≤ x6_1
    ·rw [if_pos c6] at H
     have c6b0 := qdT c6
     clear c6
     by_cases c7 : (rd l0 x6_1) = a1
     ·rw [if_pos c7] at H
      have c7b0 : ((rd l0 x6_1) == a1) = true := beq_iff_eq.mpr c7
      have c7b1 : ((rd l0 x6_1) != a1) = false := bne_eq_false_iff_eq.mpr c7
      clear c7
      by_cases c8 : x176001_1 = 0
      ·rw [if_pos c8] at H
       have c8b0 : (x176001_1 == 0) = true := beq_iff_eq.mpr c8
       have c8b1 : (x176001_1 != 0) = false := bne_eq_false_iff_eq.mpr c8
       clear c8
       have H' := aMk H
       clear H
       have p176 : 0 ≤ (x6_1 : Int) := qoD (by assumption)
       have q176 : x6_1 < (l0.length : Int) := qoD (by assumption)
       obtain ⟨ad176, e176, hx176_0⟩ := Kd.at_int HR0.out x6_1 p176 q176
       cases e176
       replace hx176_0 := (HB.out.cell (qwL w _ hx176_0)).trans hx176_0
       replace p176 := eq_true p176
       replace q176 := eq_true q176
       have hnb9 := NB175_174.out
       have hnc9 := NB174_175.out
       have hcz10_0 : wr.cell? ⟨gb175, 0, none⟩ = some (.int .i64 x176000_1) := (blk_cell BK175.out 0).trans rfl
       have hcz10_1 : wr.cell? ⟨gb175, 1, none⟩ = some (.int .i64 x176001_1) := (blk_cell BK175.out 1).trans rfl
       have hfz10_0 := qbF BK175.out 0
       have hfz10_1 := qbF BK175.out 1
       go_wp2
       go_roundg k1
       case measure => have := HK1.out; omega
       case rel => exact ⟨(wrap64 (x6_1 + 1)), (x6_1), (wrap64 (x6_1 + 1)), rfl, H', ⟨by have := HK1.out; omega⟩, ⟨by refine blk_far ?_ NB174_175.out _; refine blk_far ?_ NB174_175.out _; exact BK174.out⟩, ⟨by refine blk_put (cs := #[.int .i64 x6_1, .int .i64 x176001_1]) ?_ 1 _ rfl; refine blk_put (cs := #[.int .i64 x176000_1, .int .i64 x176001_1]) ?_ 0 _ rfl; exact BK175.out⟩, ⟨by repeat (first | (with_reducible first | exact HB.out | apply qbA | apply qbN | apply qb1 | refine qbS ?_ GE174.out | refine qbS ?_ GE175.out) | exact HB.out)⟩⟩
      ·rw [if_neg c8] at H
       have c8b0 : (x176001_1 == 0) = false := beq_eq_false_iff_ne.mpr c8
       have c8b1 : (x176001_1 != 0) = true := bne_iff_ne.mpr c8
       have H' := aMk H
       clear H
       have p176 : 0 ≤ (x6_1 : Int) := qoD (by assumption)
       have q176 : x6_1 < (l0.length : Int) := qoD (by assumption)
       obtain ⟨ad176, e176, hx176_0⟩ := Kd.at_int HR0.out x6_1 p176 q176
       cases e176
       replace hx176_0 := (HB.out.cell (qwL w _ hx176_0)).trans hx176_0
       replace p176 := eq_true p176
       replace q176 := eq_true q176
       have hnb11 := NB175_174.out
       have hnc11 := NB174_175.out
       have hcz12_0 : wr.cell? ⟨gb175, 0, none⟩ = some (.int .i64 x176000_1) := (blk_cell BK175.out 0).trans rfl
       have hcz12_1 : wr.cell? ⟨gb175, 1, none⟩ = some (.int .i64 x176001_1) := (blk_cell BK175.out 1).trans rfl
       have hfz12_0 := qbF BK175.out 0
       have hfz12_1 := qbF BK175.out 1
       go_wp2
       go_roundg k1
       case measure => have := HK1.out; omega
       case rel => exact ⟨(wrap64 (x6_1 + 1)), (x176000_1), (wrap64 (x6_1 + 1)), rfl, H', ⟨by have := HK1.out; omega⟩, ⟨by refine blk_far ?_ NB174_175.out _; exact BK174.out⟩, ⟨by refine blk_put (cs := #[.int .i64 x176000_1, .int .i64 x176001_1]) ?_ 1 _ rfl; exact BK175.out⟩, ⟨by repeat (first | (with_reducible first | exact HB.out | apply qbA | apply qbN | apply qb1 | refine qbS ?_ GE174.out | refine qbS ?_ GE175.out) | exact HB.out)⟩⟩
     ·rw [if_neg c7] at H
      have c7b0 : ((rd l0 x6_1) == a1) = false := beq_eq_false_iff_ne.mpr c7
      have c7b1 : ((rd l0 x6_1) != a1) = true := bne_iff_ne.mpr c7
      have H' := aMk H
      clear H
      have p176 : 0 ≤ (x6_1 : Int) := qoD (by assumption)
      have q176 : x6_1 < (l0.length : Int) := qoD (by assumption)
      obtain ⟨ad176, e176, hx176_0⟩ := Kd.at_int HR0.out x6_1 p176 q176
      cases e176
      replace hx176_0 := (HB.out.cell (qwL w _ hx176_0)).trans hx176_0
      replace p176 := eq_true p176
      replace q176 := eq_true q176
      go_wp2
      go_roundg k1
      case measure => have := HK1.out; omega
      case rel => exact ⟨(wrap64 (x6_1 + 1)), (x176000_1), (x176001_1), rfl, H', ⟨by have := HK1.out; omega⟩, ⟨by exact BK174.out⟩, ⟨by exact BK175.out⟩, ⟨by repeat (first | (with_reducible first | exact HB.out | apply qbA | apply qbN | apply qb1 | refine qbS ?_ GE174.out | refine qbS ?_ GE175.out) | exact HB.out)⟩⟩
    ·rw [if_neg c6] at H
     exact absurd H (by simp)
   ·rw [if_neg c5] at H
    have c5b0 := qdF c5
    clear c5
    simp only [Option.some.injEq, Prod.mk.injEq] at H
    obtain ⟨rfl, rfl⟩ := H
    have hnb13 := NB175_174.out
    have hnc13 := NB174_175.out
    have hcz14_0 : wr.cell? ⟨gb175, 0, none⟩ = some (.int .i64 x176000_1) := (blk_cell BK175.out 0).trans rfl
    have hcz14_1 : wr.cell? ⟨gb175, 1, none⟩ = some (.int .i64 x176001_1) := (blk_cell BK175.out 1).trans rfl
    have hfz14_0 := qbF BK175.out 0
    have hfz14_1 := qbF BK175.out 1
    have hcz15_0 : wr.cell? ⟨gb174, 0, none⟩ = some (.int .i64 0) := (blk_cell BK174.out 0).trans rfl
    have hcz15_1 : wr.cell? ⟨gb174, 1, none⟩ = some (.int .i64 0) := (blk_cell BK174.out 1).trans rfl
    have hfz15_0 := qbF BK174.out 0
    have hfz15_1 := qbF BK174.out 1
    go_wp2
    refine bodyPost_ret (results_cell_row rfl _ _ gb174 34 #[.int .i64 x176000_1, .int .i64 x176001_1] (0, 0) _ rfl (by refine blk_put (cs := #[.int .i64 x176000_1, .int .i64 0]) ?_ 1 _ rfl; refine blk_put (cs := #[.int .i64 0, .int .i64 0]) ?_ 0 _ rfl; exact BK174.out) Tryz.underlying34 rfl (by kernel_rfl)) rfl ?_
    exact ⟨rfl, by repeat (first | (with_reducible first | exact HB.out | apply qbA | apply qbN | apply qb1 | refine qbS ?_ GE174.out | refine qbS ?_ GE175.out) | exact HB.out)⟩
end PClusterFinest
end Go.Proofs.YtemhccjjcioodaaGreat
