/- Texts of this claim, cut to what it needs. -/
import Derived.Test.YtemhccjjcioodaaGreatKPClusterFinestx1
import Derived.Test.YtemhccjjcioodaaGreatKWLast
import Derived.Test.YtemhccjjcioodaaGreatKWMore
import Derived.Lib.Hide
import Derived.StillTailTactics
import Derived.Deep.RegionWith
import Derived.Tactics
import Derived.WalkKit
import Derived.KernelRfl
import Derived.LoopN
import Derived.Laws.CopyOwn
import Derived.BigQuiet
set_option linter.unusedSimpArgs false
set_option linter.unusedVariables false
section
namespace Go.Proofs.YtemhccjjcioodaaGreat.PClusterFinest
open Go.RowKit Go.Proofs.YtemhccjjcioodaaGreatW.PrintWords Go.Proofs.YtemhccjjcioodaaGreatW.PrintLast Go.Proofs.YtemhccjjcioodaaGreatW.PrintMore
attribute [local go_sem] max2_int min2_int max_two min_two max_three min_three max_four min_four   -- for this text's walks alone
attribute [local go_sem high] eqA45
def span_Right.f (a0_0 : Int) (a0_1 : Int) : Option (Bool) := if 0 ≤ a0_0 then (some (decide (a0_0 < a0_1))) else (some false)
set_option maxHeartbeats 8000000 in
set_option maxRecDepth 100000 in
theorem span_Right.calls (a0_0 : Int) (a0_1 : Int) (r : Bool) (w : World) (h : span_Right.f a0_0 a0_1 = some r) :
 Calls Tryz.prog 119 #[.agg #[.int .i64 a0_0, .int .i64 a0_1]] w fun e w' => e = .returned (.bool r) ∧ Below w.heap.size w w' := by
 have hu33 := Tryz.underlying34
 have HB := Aside0.mk (Below.refl w.heap.size w)
 have H : (if 0 ≤ a0_0 then (some (decide (a0_0 < a0_1))) else (some false)) = some r := h
 clear h
 by_cases c2 : 0 ≤ a0_0
 ·rw [if_pos c2] at H
  have c2b0 : decide (0 ≤ a0_0) = true := decide_eq_true c2
  clear c2
  obtain rfl := Option.some.inj H
  go_enter Tryz.func119, Tryz.ntmps119
  go_wp2_with (first | ((with_reducible refine gate_dst (N := 1) rfl ?_); refine box_event ?hg (N := 1) ?hd (cs := #[.int .i64 a0_0, .int .i64 a0_1]) (t := 34) ?hr ?_; (case hd => rfl); (case hg => rfl); (case hr => first | (go_simp; done) | (go_simp; rfl)); intro gb108 hg w3 hbox hb; have n0_ := Aside0.mk (below_step (by repeat (first | (with_reducible first | exact HB.out | apply below_alloc | apply pw_below_drewN | apply below_drew1) | exact HB.out)) hb); have n1_ := Aside0.mk (hbox); have n2_ := Aside0.mk ((by rw [hg]; exact (below_size (by repeat (first | (with_reducible first | exact HB.out | apply below_alloc | apply pw_below_drewN | apply below_drew1) | exact HB.out))) : w.heap.size ≤ gb108)); have n3_ := Aside0.mk ((by rw [hg]; exact (below_size (by repeat (first | (with_reducible first | exact HB.out | apply below_alloc | apply pw_below_drewN | apply below_drew1) | exact HB.out))) : w.heap.size ≤ gb108)); clear HB; have HB := n0_; have BK108 := n1_; have GW108 := n2_; have GE108 := n3_; clear n0_ n1_ n2_ n3_; clear hb hbox hg; have hcz4_0 : w3.cell? ⟨gb108, 0, none⟩ = some (.int .i64 a0_0) := (blk_cell BK108.out 0).trans rfl; have hcz4_1 : w3.cell? ⟨gb108, 1, none⟩ = some (.int .i64 a0_1) := (blk_cell BK108.out 1).trans rfl; have hfz4_0 := blk_frozen BK108.out 0; have hfz4_1 := blk_frozen BK108.out 1))
  go_ret
  exact ⟨by first | rfl | (simp [errW_none, errW_some] <;> rfl) | (simp [*, errW_none, errW_some] <;> rfl), by repeat (first | (with_reducible first | exact HB.out | apply below_alloc | apply pw_below_drewN | apply below_drew1 | refine below_set ?_ GE108.out) | exact HB.out)⟩
 ·rw [if_neg c2] at H
  have c2b0 : decide (0 ≤ a0_0) = false := decide_eq_false c2
  clear c2
  obtain rfl := Option.some.inj H
  go_enter Tryz.func119, Tryz.ntmps119
  go_wp2_with (first | ((with_reducible refine gate_dst (N := 1) rfl ?_); refine box_event ?hg (N := 1) ?hd (cs := #[.int .i64 a0_0, .int .i64 a0_1]) (t := 34) ?hr ?_; (case hd => rfl); (case hg => rfl); (case hr => first | (go_simp; done) | (go_simp; rfl)); intro gb108 hg w5 hbox hb; have n0_ := Aside0.mk (below_step (by repeat (first | (with_reducible first | exact HB.out | apply below_alloc | apply pw_below_drewN | apply below_drew1) | exact HB.out)) hb); have n1_ := Aside0.mk (hbox); have n2_ := Aside0.mk ((by rw [hg]; exact (below_size (by repeat (first | (with_reducible first | exact HB.out | apply below_alloc | apply pw_below_drewN | apply below_drew1) | exact HB.out))) : w.heap.size ≤ gb108)); have n3_ := Aside0.mk ((by rw [hg]; exact (below_size (by repeat (first | (with_reducible first | exact HB.out | apply below_alloc | apply pw_below_drewN | apply below_drew1) | exact HB.out))) : w.heap.size ≤ gb108)); clear HB; have HB := n0_; have BK108 := n1_; have GW108 := n2_; have GE108 := n3_; clear n0_ n1_ n2_ n3_; clear hb hbox hg; have hcz6_0 : w5.cell? ⟨gb108, 0, none⟩ = some (.int .i64 a0_0) := (blk_cell BK108.out 0).trans rfl; have hcz6_1 : w5.cell? ⟨gb108, 1, none⟩ = some (.int .i64 a0_1) := (blk_cell BK108.out 1).trans rfl; have hfz6_0 := blk_frozen BK108.out 0; have hfz6_1 := blk_frozen BK108.out 1))
  go_ret
  exact ⟨by first | rfl | (simp [errW_none, errW_some] <;> rfl) | (simp [*, errW_none, errW_some] <;> rfl), by repeat (first | (with_reducible first | exact HB.out | apply below_alloc | apply pw_below_drewN | apply below_drew1 | refine below_set ?_ GE108.out) | exact HB.out)⟩
def span_Parts.l0 : Nat → Int → Int → List (S33) → Int → Int → Option (Bool)
 | 0, _, _, _, _, _ => none
 | k + 1, x1, x5, x8, x9, x10 => if x10 < x9 then (if 0 ≤ x10 then (if x10 < (x8.length : Int) then (if ((rd_T33 x8 x10).f0) = x5 then ((span_Right.f ((rd_T33 x8 x10).f0) ((rd_T33 x8 x10).f1)).bind fun t111 => (if t111 = true then (span_Parts.l0 k x1 ((rd_T33 x8 x10).f1) x8 x9 (wrap64 (x10 + 1))) else (some false))) else (some false)) else (none)) else (none)) else (some (x5 == x1))
def span_Parts.f (k : Nat) (l0 : List (S33)) (a1 : Int) : Option (Bool) := span_Parts.l0 k a1 0 l0 (l0.length : Int) 0
theorem span_Parts.mono_l : ∀ k, (∀ y0 y1 y2 y3 y4, LeO (span_Parts.l0 k y0 y1 y2 y3 y4) (span_Parts.l0 (k + 1) y0 y1 y2 y3 y4))
 | 0 => fun _ _ _ _ _ r h => by simp [span_Parts.l0] at h
 | k + 1 => by
  have ih0 := span_Parts.mono_l k
  ·intro y0 y1 y2 y3 y4
   unfold span_Parts.l0
   repeat' first
   | (with_reducible exact ih0 _ _ _ _ _)
   | (with_reducible exact LeO.refl _)
   | (with_reducible exact LeO.none _)
   | (with_reducible refine LeO.ite ?_ ?_)
   | (with_reducible refine LeO.bind ?_ (fun _ => ?_))
   | exact ih0 _ _ _ _ _
   | exact LeO.none _
   | refine LeO.ite ?_ ?_
   | refine LeO.bind ?_ (fun _ => ?_)
theorem span_Parts.mono : ∀ a0 a1 k, LeO (span_Parts.f k a0 a1) (span_Parts.f (k + 1) a0 a1) := by
 intro a0 a1 k
 have ih0 := span_Parts.mono_l k
 unfold span_Parts.f
 repeat' first
  | (with_reducible exact ih0 _ _ _ _ _)
  | (with_reducible exact LeO.refl _)
  | (with_reducible exact LeO.none _)
  | (with_reducible refine LeO.ite ?_ ?_)
  | (with_reducible refine LeO.bind ?_ (fun _ => ?_))
  | exact ih0 _ _ _ _ _
  | exact LeO.none _
  | refine LeO.ite ?_ ?_
  | refine LeO.bind ?_ (fun _ => ?_)
set_option maxHeartbeats 8000000 in
set_option maxRecDepth 100000 in
theorem span_Parts.calls (k : Nat) (A0 : Option Addr) (c0 : Nat) (l0 : List (S33)) (a1 : Int) (r : Bool) (w : World) (hr0 : Kd.C k33 w A0 l0.length l0) (hc0 : l0.length ≤ c0) (h : span_Parts.f k l0 a1 = some r) :
 Calls Tryz.prog 91 #[.slice A0 l0.length c0, .int .i64 a1] w fun e w' => e = .returned (.bool r) ∧ Below w.heap.size w w' := by
 have hu33 := Tryz.underlying34
 have HR0 := Aside0.mk hr0
 have HC0 := Aside0.mk hc0
 clear hr0 hc0
 have HB := Aside0.mk (Below.refl w.heap.size w)
 have H : (span_Parts.l0 k a1 0 l0 (l0.length : Int) 0) = some r := h
 clear h
 have H' := Aside0.mk H
 clear H
 go_enter Tryz.func91, Tryz.ntmps91
 go_wp2
 go_loopg [5, 10] k (fun kq v5 v10 w' => ∃ (x5_1 : Int) (x10_1 : Int), v5 = .int .i64 x5_1 ∧ v10 = .int .i64 x10_1 ∧ Aside0 (span_Parts.l0 kq a1 x5_1 l0 (l0.length : Int) x10_1 = some r) ∧ Aside0 (kq ≤ k) ∧ Aside0 (Below w.heap.size w w'))
 case atStart => exact ⟨(0), (0), (by first | rfl | (simp; done) | (simp [*]; done)), (by first | rfl | (simp; done) | (simp [*]; done)), H', ⟨Nat.le_refl _⟩, ⟨by repeat (first | (with_reducible first | exact HB.out | apply below_alloc | apply pw_below_drewN | apply below_drew1) | exact HB.out)⟩⟩
 case round =>
  clear H'
  try clear p2
  obtain ⟨x5_1, x10_1, rfl, rfl, HA, HK1, HB⟩ := hrel
  cases gk with
  | zero => exact absurd HA.out (by simp [span_Parts.l0])
  | succ k1 =>
   have H := HA.out
   clear HA
   simp only [span_Parts.l0] at H
   by_cases c3 : x10_1 < (l0.length : Int)
   ·rw [if_pos c3] at H
    have c3b0 : decide (x10_1 < (l0.length : Int)) = true := decide_eq_true c3
    clear c3
    by_cases c4 : 0 ≤ x10_1
    ·rw [if_pos c4] at H
     have c4b0 : decide (0 ≤ x10_1) = true := decide_eq_true c4
     clear c4
     by_cases c5 : x10_1 < (l0.length : Int)
     ·rw [if_pos c5] at H
      have c5b0 : decide (x10_1 < (l0.length : Int)) = true := decide_eq_true c5
      clear c5
      by_cases c6 : ((rd_T33 l0 x10_1).f0) = x5_1
      ·rw [if_pos c6] at H
       have c6b0 : (((rd_T33 l0 x10_1).f0) == x5_1) = true := beq_iff_eq.mpr c6
       have c6b1 : (((rd_T33 l0 x10_1).f0) != x5_1) = false := bne_eq_false_iff_eq.mpr c6
       clear c6
       replace H := Option.bind_eq_some_iff.mp H
       obtain ⟨t111, A70, H⟩ := H
       try dsimp only at H
       have A7 := Aside0.mk A70; clear A70
       by_cases c8 : t111 = true
       ·subst c8
        rw [if_pos rfl] at H
        have H' := Aside0.mk H
        clear H
        have p109 : 0 ≤ (x10_1 : Int) := of_decide_eq_true (by first | (with_reducible assumption) | assumption)
        have q109 : x10_1 < (l0.length : Int) := of_decide_eq_true (by first | (with_reducible assumption) | assumption)
        obtain ⟨ad109, e109, hx109_0, hx109_1⟩ := at_T33 HR0.out x10_1 p109 q109
        cases e109
        replace hx109_0 := (HB.out.cell (World.block_lt_of_cell? w _ hx109_0)).trans hx109_0
        replace hx109_1 := (HB.out.cell (World.block_lt_of_cell? w _ hx109_1)).trans hx109_1
        replace p109 := eq_true p109
        replace q109 := eq_true q109
        go_wp2_with (first | ((with_reducible refine gate_dst (N := 7) rfl ?_); refine box_event ?hg (N := 7) ?hd (cs := #[.int .i64 0, .int .i64 0]) (t := 34) ?hr ?_; (case hd => rfl); (case hg => rfl); (case hr => first | (go_simp; done) | (go_simp; rfl)); intro gb110 hg w9 hbox hb; have n0_ := Aside0.mk (below_step (by repeat (first | (with_reducible first | exact HB.out | apply below_alloc | apply pw_below_drewN | apply below_drew1) | exact HB.out)) hb); have n1_ := Aside0.mk (hbox); have n2_ := Aside0.mk ((by rw [hg]; exact (below_size (by repeat (first | (with_reducible first | exact HB.out | apply below_alloc | apply pw_below_drewN | apply below_drew1) | exact HB.out))) : w.heap.size ≤ gb110)); have n3_ := Aside0.mk ((by rw [hg]; exact (below_size (by repeat (first | (with_reducible first | exact HB.out | apply below_alloc | apply pw_below_drewN | apply below_drew1) | exact HB.out))) : w.heap.size ≤ gb110)); clear HB; have HB := n0_; have BK110 := n1_; have GW110 := n2_; have GE110 := n3_; clear n0_ n1_ n2_ n3_; clear hb hbox hg; have hcz10_0 : w9.cell? ⟨gb110, 0, none⟩ = some (.int .i64 0) := (blk_cell BK110.out 0).trans rfl; have hcz10_1 : w9.cell? ⟨gb110, 1, none⟩ = some (.int .i64 0) := (blk_cell BK110.out 1).trans rfl; have hfz10_0 := blk_frozen BK110.out 0; have hfz10_1 := blk_frozen BK110.out 1) | (go_at_call 119; (with_reducible refine (span_Right.calls ((rd_T33 l0 x10_1).f0) ((rd_T33 l0 x10_1).f1) true _ A7.out).mono ?_); rintro e w11 ⟨rfl, hb⟩; have n0_ := Aside0.mk (blk_below (g := gb110) (o := .cells #[.int .i64 ((rd_T33 l0 x10_1).f0), .int .i64 ((rd_T33 l0 x10_1).f1)] 34 (0, 0)) (by (with_reducible repeat (first | refine blk_drewN ?_ _ | refine blk_drew ?_ | refine blk_alloc ?_ _)); refine blk_put (cs := #[.int .i64 ((rd_T33 l0 x10_1).f0), .int .i64 0]) ?_ 1 _ rfl; (with_reducible repeat (first | refine blk_drewN ?_ _ | refine blk_drew ?_ | refine blk_alloc ?_ _)); refine blk_put (cs := #[.int .i64 0, .int .i64 0]) ?_ 0 _ rfl; (with_reducible repeat (first | refine blk_drewN ?_ _ | refine blk_drew ?_ | refine blk_alloc ?_ _)); exact BK110.out) hb); have n1_ := Aside0.mk (below_step (by repeat (first | (with_reducible first | exact HB.out | apply below_alloc | apply pw_below_drewN | apply below_drew1 | refine below_set ?_ GE110.out) | exact HB.out)) hb); clear BK110; clear HB; have BK110 := n0_; have HB := n1_; clear n0_ n1_; (try clear hb); (try clear hb2); (try clear hk); (try clear hi); have hcz12_0 : w11.cell? ⟨gb110, 0, none⟩ = some (.int .i64 ((rd_T33 l0 x10_1).f0)) := (blk_cell BK110.out 0).trans rfl; have hcz12_1 : w11.cell? ⟨gb110, 1, none⟩ = some (.int .i64 ((rd_T33 l0 x10_1).f1)) := (blk_cell BK110.out 1).trans rfl; have hfz12_0 := blk_frozen BK110.out 0; have hfz12_1 := blk_frozen BK110.out 1))
        go_roundg k1
        case measure => have := HK1.out; omega
        case rel => exact ⟨((rd_T33 l0 x10_1).f1), (wrap64 (x10_1 + 1)), (by first | rfl | (simp; done) | (simp [*]; done)), (by first | rfl | (simp; done) | (simp [*]; done)), H', ⟨by have := HK1.out; omega⟩, ⟨by repeat (first | (with_reducible first | exact HB.out | apply below_alloc | apply pw_below_drewN | apply below_drew1 | refine below_set ?_ GE110.out) | exact HB.out)⟩⟩
       ·replace c8 := Bool.eq_false_iff.mpr c8
        subst c8
        rw [if_neg (show ¬ (false = true) by decide)] at H
        obtain rfl := Option.some.inj H
        have p109 : 0 ≤ (x10_1 : Int) := of_decide_eq_true (by first | (with_reducible assumption) | assumption)
        have q109 : x10_1 < (l0.length : Int) := of_decide_eq_true (by first | (with_reducible assumption) | assumption)
        obtain ⟨ad109, e109, hx109_0, hx109_1⟩ := at_T33 HR0.out x10_1 p109 q109
        cases e109
        replace hx109_0 := (HB.out.cell (World.block_lt_of_cell? w _ hx109_0)).trans hx109_0
        replace hx109_1 := (HB.out.cell (World.block_lt_of_cell? w _ hx109_1)).trans hx109_1
        replace p109 := eq_true p109
        replace q109 := eq_true q109
        go_wp2_with (first | ((with_reducible refine gate_dst (N := 7) rfl ?_); refine box_event ?hg (N := 7) ?hd (cs := #[.int .i64 0, .int .i64 0]) (t := 34) ?hr ?_; (case hd => rfl); (case hg => rfl); (case hr => first | (go_simp; done) | (go_simp; rfl)); intro gb110 hg w13 hbox hb; have n0_ := Aside0.mk (below_step (by repeat (first | (with_reducible first | exact HB.out | apply below_alloc | apply pw_below_drewN | apply below_drew1) | exact HB.out)) hb); have n1_ := Aside0.mk (hbox); have n2_ := Aside0.mk ((by rw [hg]; exact (below_size (by repeat (first | (with_reducible first | exact HB.out | apply below_alloc | apply pw_below_drewN | apply below_drew1) | exact HB.out))) : w.heap.size ≤ gb110)); have n3_ := Aside0.mk ((by rw [hg]; exact (below_size (by repeat (first | (with_reducible first | exact HB.out | apply below_alloc | apply pw_below_drewN | apply below_drew1) | exact HB.out))) : w.heap.size ≤ gb110)); clear HB; have HB := n0_; have BK110 := n1_; have GW110 := n2_; have GE110 := n3_; clear n0_ n1_ n2_ n3_; clear hb hbox hg; have hcz14_0 : w13.cell? ⟨gb110, 0, none⟩ = some (.int .i64 0) := (blk_cell BK110.out 0).trans rfl; have hcz14_1 : w13.cell? ⟨gb110, 1, none⟩ = some (.int .i64 0) := (blk_cell BK110.out 1).trans rfl; have hfz14_0 := blk_frozen BK110.out 0; have hfz14_1 := blk_frozen BK110.out 1) | (go_at_call 119; (with_reducible refine (span_Right.calls ((rd_T33 l0 x10_1).f0) ((rd_T33 l0 x10_1).f1) false _ A7.out).mono ?_); rintro e w15 ⟨rfl, hb⟩; have n0_ := Aside0.mk (blk_below (g := gb110) (o := .cells #[.int .i64 ((rd_T33 l0 x10_1).f0), .int .i64 ((rd_T33 l0 x10_1).f1)] 34 (0, 0)) (by (with_reducible repeat (first | refine blk_drewN ?_ _ | refine blk_drew ?_ | refine blk_alloc ?_ _)); refine blk_put (cs := #[.int .i64 ((rd_T33 l0 x10_1).f0), .int .i64 0]) ?_ 1 _ rfl; (with_reducible repeat (first | refine blk_drewN ?_ _ | refine blk_drew ?_ | refine blk_alloc ?_ _)); refine blk_put (cs := #[.int .i64 0, .int .i64 0]) ?_ 0 _ rfl; (with_reducible repeat (first | refine blk_drewN ?_ _ | refine blk_drew ?_ | refine blk_alloc ?_ _)); exact BK110.out) hb); have n1_ := Aside0.mk (below_step (by repeat (first | (with_reducible first | exact HB.out | apply below_alloc | apply pw_below_drewN | apply below_drew1 | refine below_set ?_ GE110.out) | exact HB.out)) hb); clear BK110; clear HB; have BK110 := n0_; have HB := n1_; clear n0_ n1_; (try clear hb); (try clear hb2); (try clear hk); (try clear hi)))
        go_ret
        exact ⟨by first | rfl | (simp [errW_none, errW_some] <;> rfl) | (simp [*, errW_none, errW_some] <;> rfl), by repeat (first | (with_reducible first | exact HB.out | apply below_alloc | apply pw_below_drewN | apply below_drew1 | refine below_set ?_ GE110.out) | exact HB.out)⟩
      ·rw [if_neg c6] at H
       have c6b0 : (((rd_T33 l0 x10_1).f0) == x5_1) = false := beq_eq_false_iff_ne.mpr c6
       have c6b1 : (((rd_T33 l0 x10_1).f0) != x5_1) = true := bne_iff_ne.mpr c6
       obtain rfl := Option.some.inj H
       have p109 : 0 ≤ (x10_1 : Int) := of_decide_eq_true (by first | (with_reducible assumption) | assumption)
       have q109 : x10_1 < (l0.length : Int) := of_decide_eq_true (by first | (with_reducible assumption) | assumption)
       obtain ⟨ad109, e109, hx109_0, hx109_1⟩ := at_T33 HR0.out x10_1 p109 q109
       cases e109
       replace hx109_0 := (HB.out.cell (World.block_lt_of_cell? w _ hx109_0)).trans hx109_0
       replace hx109_1 := (HB.out.cell (World.block_lt_of_cell? w _ hx109_1)).trans hx109_1
       replace p109 := eq_true p109
       replace q109 := eq_true q109
       go_wp2_with (first | ((with_reducible refine gate_dst (N := 7) rfl ?_); refine box_event ?hg (N := 7) ?hd (cs := #[.int .i64 0, .int .i64 0]) (t := 34) ?hr ?_; (case hd => rfl); (case hg => rfl); (case hr => first | (go_simp; done) | (go_simp; rfl)); intro gb110 hg w16 hbox hb; have n0_ := Aside0.mk (below_step (by repeat (first | (with_reducible first | exact HB.out | apply below_alloc | apply pw_below_drewN | apply below_drew1) | exact HB.out)) hb); have n1_ := Aside0.mk (hbox); have n2_ := Aside0.mk ((by rw [hg]; exact (below_size (by repeat (first | (with_reducible first | exact HB.out | apply below_alloc | apply pw_below_drewN | apply below_drew1) | exact HB.out))) : w.heap.size ≤ gb110)); have n3_ := Aside0.mk ((by rw [hg]; exact (below_size (by repeat (first | (with_reducible first | exact HB.out | apply below_alloc | apply pw_below_drewN | apply below_drew1) | exact HB.out))) : w.heap.size ≤ gb110)); clear HB; have HB := n0_; have BK110 := n1_; have GW110 := n2_; have GE110 := n3_; clear n0_ n1_ n2_ n3_; clear hb hbox hg; have hcz17_0 : w16.cell? ⟨gb110, 0, none⟩ = some (.int .i64 0) := (blk_cell BK110.out 0).trans rfl; have hcz17_1 : w16.cell? ⟨gb110, 1, none⟩ = some (.int .i64 0) := (blk_cell BK110.out 1).trans rfl; have hfz17_0 := blk_frozen BK110.out 0; have hfz17_1 := blk_frozen BK110.out 1))
       go_ret
       exact ⟨by first | rfl | (simp [errW_none, errW_some] <;> rfl) | (simp [*, errW_none, errW_some] <;> rfl), by repeat (first | (with_reducible first | exact HB.out | apply below_alloc | apply pw_below_drewN | apply below_drew1 | refine below_set ?_ GE110.out) | exact HB.out)⟩
     ·rw [if_neg c5] at H
      exact absurd H (by simp)
    ·rw [if_neg c4] at H
     exact absurd H (by simp)
   ·rw [if_neg c3] at H
    have c3b0 : decide (x10_1 < (l0.length : Int)) = false := decide_eq_false c3
    clear c3
    obtain rfl := Option.some.inj H
    go_wp2
    go_ret
    exact ⟨by first | rfl | (simp [errW_none, errW_some] <;> rfl) | (simp [*, errW_none, errW_some] <;> rfl), by repeat (first | (with_reducible first | exact HB.out | apply below_alloc | apply pw_below_drewN | apply below_drew1) | exact HB.out)⟩
def cluster_fits.f (a0_0 : Int) (a0_1 : Int) (a1 : Int) : Option (Bool) := (span_Right.f a0_0 a0_1).bind fun t113 => (if t113 = true then (some (decide (a0_1 ≤ a1))) else (some false))
set_option maxHeartbeats 8000000 in
set_option maxRecDepth 100000 in
theorem cluster_fits.calls (a0_0 : Int) (a0_1 : Int) (a1 : Int) (r : Bool) (w : World) (h : cluster_fits.f a0_0 a0_1 a1 = some r) :
 Calls Tryz.prog 248 #[.agg #[.int .i64 a0_0, .int .i64 a0_1], .int .i64 a1] w fun e w' => e = .returned (.bool r) ∧ Below w.heap.size w w' := by
 have hu33 := Tryz.underlying34
 have HB := Aside0.mk (Below.refl w.heap.size w)
 have H : ((span_Right.f a0_0 a0_1).bind fun t113 => (if t113 = true then (some (decide (a0_1 ≤ a1))) else (some false))) = some r := h
 clear h
 replace H := Option.bind_eq_some_iff.mp H
 obtain ⟨t113, A30, H⟩ := H
 try dsimp only at H
 have A3 := Aside0.mk A30; clear A30
 by_cases c4 : t113 = true
 ·subst c4
  rw [if_pos rfl] at H
  obtain rfl := Option.some.inj H
  go_enter Tryz.func248, Tryz.ntmps248
  go_wp2_with (first | ((with_reducible refine gate_dst (N := 2) rfl ?_); refine box_event ?hg (N := 2) ?hd (cs := #[.int .i64 a0_0, .int .i64 a0_1]) (t := 34) ?hr ?_; (case hd => rfl); (case hg => rfl); (case hr => first | (go_simp; done) | (go_simp; rfl)); intro gb112 hg w5 hbox hb; have n0_ := Aside0.mk (below_step (by repeat (first | (with_reducible first | exact HB.out | apply below_alloc | apply pw_below_drewN | apply below_drew1) | exact HB.out)) hb); have n1_ := Aside0.mk (hbox); have n2_ := Aside0.mk ((by rw [hg]; exact (below_size (by repeat (first | (with_reducible first | exact HB.out | apply below_alloc | apply pw_below_drewN | apply below_drew1) | exact HB.out))) : w.heap.size ≤ gb112)); have n3_ := Aside0.mk ((by rw [hg]; exact (below_size (by repeat (first | (with_reducible first | exact HB.out | apply below_alloc | apply pw_below_drewN | apply below_drew1) | exact HB.out))) : w.heap.size ≤ gb112)); clear HB; have HB := n0_; have BK112 := n1_; have GW112 := n2_; have GE112 := n3_; clear n0_ n1_ n2_ n3_; clear hb hbox hg; have hcz6_0 : w5.cell? ⟨gb112, 0, none⟩ = some (.int .i64 a0_0) := (blk_cell BK112.out 0).trans rfl; have hcz6_1 : w5.cell? ⟨gb112, 1, none⟩ = some (.int .i64 a0_1) := (blk_cell BK112.out 1).trans rfl; have hfz6_0 := blk_frozen BK112.out 0; have hfz6_1 := blk_frozen BK112.out 1) | ((with_reducible refine gate_callee (f := 119) rfl ?_); refine goesL_ (some 6) rfl rfl Tryz.func119 (by kernel_rfl) rfl #[.agg #[.int .i64 a0_0, .int .i64 a0_1]] rfl (by (try simp only [List.map_toArray, List.map_cons, List.map_nil]); first | done | rfl | (simp only [List.length_drop, List.length_take]; rfl)) ?_; (with_reducible refine (span_Right.calls a0_0 a0_1 true _ A3.out).mono ?_); rintro e w7 ⟨rfl, hb⟩; refine ⟨_, rfl, ?_⟩; have n0_ := Aside0.mk (blk_below (g := gb112) (o := .cells #[.int .i64 a0_0, .int .i64 a0_1] 34 (0, 0)) (by (with_reducible repeat (first | refine blk_drewN ?_ _ | refine blk_drew ?_ | refine blk_alloc ?_ _)); exact BK112.out) hb); have n1_ := Aside0.mk (below_step (by repeat (first | (with_reducible first | exact HB.out | apply below_alloc | apply pw_below_drewN | apply below_drew1 | refine below_set ?_ GE112.out) | exact HB.out)) hb); clear BK112; clear HB; have BK112 := n0_; have HB := n1_; clear n0_ n1_; (try clear hb); (try clear hb2); (try clear hk); (try clear hi); have hcz8_0 : w7.cell? ⟨gb112, 0, none⟩ = some (.int .i64 a0_0) := (blk_cell BK112.out 0).trans rfl; have hcz8_1 : w7.cell? ⟨gb112, 1, none⟩ = some (.int .i64 a0_1) := (blk_cell BK112.out 1).trans rfl; have hfz8_0 := blk_frozen BK112.out 0; have hfz8_1 := blk_frozen BK112.out 1))
  go_ret
  exact ⟨by first | rfl | (simp [errW_none, errW_some] <;> rfl) | (simp [*, errW_none, errW_some] <;> rfl), by repeat (first | (with_reducible first | exact HB.out | apply below_alloc | apply pw_below_drewN | apply below_drew1 | refine below_set ?_ GE112.out) | exact HB.out)⟩
 ·replace c4 := Bool.eq_false_iff.mpr c4
  subst c4
  rw [if_neg (show ¬ (false = true) by decide)] at H
  obtain rfl := Option.some.inj H
  go_enter Tryz.func248, Tryz.ntmps248
  go_wp2_with (first | ((with_reducible refine gate_dst (N := 2) rfl ?_); refine box_event ?hg (N := 2) ?hd (cs := #[.int .i64 a0_0, .int .i64 a0_1]) (t := 34) ?hr ?_; (case hd => rfl); (case hg => rfl); (case hr => first | (go_simp; done) | (go_simp; rfl)); intro gb112 hg w9 hbox hb; have n0_ := Aside0.mk (below_step (by repeat (first | (with_reducible first | exact HB.out | apply below_alloc | apply pw_below_drewN | apply below_drew1) | exact HB.out)) hb); have n1_ := Aside0.mk (hbox); have n2_ := Aside0.mk ((by rw [hg]; exact (below_size (by repeat (first | (with_reducible first | exact HB.out | apply below_alloc | apply pw_below_drewN | apply below_drew1) | exact HB.out))) : w.heap.size ≤ gb112)); have n3_ := Aside0.mk ((by rw [hg]; exact (below_size (by repeat (first | (with_reducible first | exact HB.out | apply below_alloc | apply pw_below_drewN | apply below_drew1) | exact HB.out))) : w.heap.size ≤ gb112)); clear HB; have HB := n0_; have BK112 := n1_; have GW112 := n2_; have GE112 := n3_; clear n0_ n1_ n2_ n3_; clear hb hbox hg; have hcz10_0 : w9.cell? ⟨gb112, 0, none⟩ = some (.int .i64 a0_0) := (blk_cell BK112.out 0).trans rfl; have hcz10_1 : w9.cell? ⟨gb112, 1, none⟩ = some (.int .i64 a0_1) := (blk_cell BK112.out 1).trans rfl; have hfz10_0 := blk_frozen BK112.out 0; have hfz10_1 := blk_frozen BK112.out 1) | ((with_reducible refine gate_callee (f := 119) rfl ?_); refine goesL_ (some 6) rfl rfl Tryz.func119 (by kernel_rfl) rfl #[.agg #[.int .i64 a0_0, .int .i64 a0_1]] rfl (by (try simp only [List.map_toArray, List.map_cons, List.map_nil]); first | done | rfl | (simp only [List.length_drop, List.length_take]; rfl)) ?_; (with_reducible refine (span_Right.calls a0_0 a0_1 false _ A3.out).mono ?_); rintro e w11 ⟨rfl, hb⟩; refine ⟨_, rfl, ?_⟩; have n0_ := Aside0.mk (blk_below (g := gb112) (o := .cells #[.int .i64 a0_0, .int .i64 a0_1] 34 (0, 0)) (by (with_reducible repeat (first | refine blk_drewN ?_ _ | refine blk_drew ?_ | refine blk_alloc ?_ _)); exact BK112.out) hb); have n1_ := Aside0.mk (below_step (by repeat (first | (with_reducible first | exact HB.out | apply below_alloc | apply pw_below_drewN | apply below_drew1 | refine below_set ?_ GE112.out) | exact HB.out)) hb); clear BK112; clear HB; have BK112 := n0_; have HB := n1_; clear n0_ n1_; (try clear hb); (try clear hb2); (try clear hk); (try clear hi)))
  go_ret
  exact ⟨by first | rfl | (simp [errW_none, errW_some] <;> rfl) | (simp [*, errW_none, errW_some] <;> rfl), by repeat (first | (with_reducible first | exact HB.out | apply below_alloc | apply pw_below_drewN | apply below_drew1 | refine below_set ?_ GE112.out) | exact HB.out)⟩
def slices_Index_bool_bool.l0 : Nat → List Bool → Bool → Int → Int → Option (Int)
 | 0, _, _, _, _ => none
 | k + 1, x0, x1, x7, x8 => if x8 < x7 then (if 0 ≤ x8 then (if x8 < (x0.length : Int) then (if (x1 == (rdOf false x0 x8)) = true then (some x8) else (slices_Index_bool_bool.l0 k x0 x1 x7 (wrap64 (x8 + 1)))) else (none)) else (none)) else (some (-1))
def slices_Index_bool_bool.f (k : Nat) (l0 : List Bool) (a1 : Bool) : Option (Int) := slices_Index_bool_bool.l0 k l0 a1 (l0.length : Int) 0
set_option maxHeartbeats 8000000 in
set_option maxRecDepth 100000 in
theorem slices_Index_bool_bool.calls (k : Nat) (A0 : Option Addr) (c0 : Nat) (l0 : List Bool) (a1 : Bool) (r : Int) (w : World) (hr0 : Kd.C Kd.bool w A0 l0.length l0) (hc0 : l0.length ≤ c0) (h : slices_Index_bool_bool.f k l0 a1 = some r) :
 Calls Tryz.prog 252 #[.slice A0 l0.length c0, .bool a1] w fun e w' => e = .returned (.int .i64 r) ∧ Drawn0 w w' := by
 have HR0 := Aside0.mk hr0
 have HC0 := Aside0.mk hc0
 clear hr0 hc0
 have H : (slices_Index_bool_bool.l0 k l0 a1 (l0.length : Int) 0) = some r := h
 clear h
 have H' := Aside0.mk H
 clear H
 go_enter Tryz.func252, Tryz.ntmps252
 go_wp2
 go_loopg [8] k (fun kq v8 w' => ∃ (x8_1 : Int), v8 = .int .i64 x8_1 ∧ Aside0 (slices_Index_bool_bool.l0 kq l0 a1 (l0.length : Int) x8_1 = some r) ∧ Aside0 (kq ≤ k) ∧ Drawn0 w w')
 case atStart => exact ⟨(0), (by first | rfl | (simp; done) | (simp [*]; done)), H', ⟨Nat.le_refl _⟩, by repeat (first | exact Drawn0.refl _ | apply Drawn0.step)⟩
 case round =>
  clear H'
  try clear p2
  obtain ⟨x8_1, rfl, HA, HK1, ⟨m1, rfl⟩⟩ := hrel
  cases gk with
  | zero => exact absurd HA.out (by simp [slices_Index_bool_bool.l0])
  | succ k1 =>
   have H := HA.out
   clear HA
   simp only [slices_Index_bool_bool.l0] at H
   by_cases c3 : x8_1 < (l0.length : Int)
   ·rw [if_pos c3] at H
    have c3b0 : decide (x8_1 < (l0.length : Int)) = true := decide_eq_true c3
    clear c3
    by_cases c4 : 0 ≤ x8_1
    ·rw [if_pos c4] at H
     have c4b0 : decide (0 ≤ x8_1) = true := decide_eq_true c4
     clear c4
     by_cases c5 : x8_1 < (l0.length : Int)
     ·rw [if_pos c5] at H
      have c5b0 : decide (x8_1 < (l0.length : Int)) = true := decide_eq_true c5
      clear c5
      by_cases c6 : (a1 == (rdOf false l0 x8_1)) = true
      ·rw [if_pos c6] at H
       have c6b0 : (a1 == (rdOf false l0 x8_1)) = true := c6
       (try (have c6b1 : decide (a1 = (rdOf false l0 x8_1)) = true := by simpa using c6))
       (try (have c6b2 : (a1 == (rdOf false l0 x8_1)) = true := by simpa using c6))
       clear c6
       obtain rfl := Option.some.inj H
       have p126 : 0 ≤ (x8_1 : Int) := of_decide_eq_true (by first | (with_reducible assumption) | assumption)
       have q126 : x8_1 < (l0.length : Int) := of_decide_eq_true (by first | (with_reducible assumption) | assumption)
       obtain ⟨ad126, e126, hx126_0⟩ := Kd.at_bool HR0.out x8_1 p126 q126
       cases e126
       replace p126 := eq_true p126
       replace q126 := eq_true q126
       go_wp2
       go_ret
       exact ⟨by first | rfl | (simp; done) | (simp [*]; done), by repeat (first | exact Drawn0.refl _ | apply Drawn0.step)⟩
      ·rw [if_neg c6] at H
       have c6b0 : (a1 == (rdOf false l0 x8_1)) = false := by simpa using c6
       (try (have c6b1 : decide (a1 = (rdOf false l0 x8_1)) = false := by simpa using c6))
       (try (have c6b2 : (a1 == (rdOf false l0 x8_1)) = false := by simpa using c6))
       (try (have c6b3 : ¬ (a1 = (rdOf false l0 x8_1)) := by simpa using c6))
       clear c6
       have H' := Aside0.mk H
       clear H
       have p126 : 0 ≤ (x8_1 : Int) := of_decide_eq_true (by first | (with_reducible assumption) | assumption)
       have q126 : x8_1 < (l0.length : Int) := of_decide_eq_true (by first | (with_reducible assumption) | assumption)
       obtain ⟨ad126, e126, hx126_0⟩ := Kd.at_bool HR0.out x8_1 p126 q126
       cases e126
       replace p126 := eq_true p126
       replace q126 := eq_true q126
       go_wp2
       go_roundg k1
       case measure => have := HK1.out; omega
       case rel => exact ⟨(wrap64 (x8_1 + 1)), (by first | rfl | (simp; done) | (simp [*]; done)), H', ⟨by have := HK1.out; omega⟩, by repeat (first | exact Drawn0.refl _ | apply Drawn0.step)⟩
     ·rw [if_neg c5] at H
      exact absurd H (by simp)
    ·rw [if_neg c4] at H
     exact absurd H (by simp)
   ·rw [if_neg c3] at H
    have c3b0 : decide (x8_1 < (l0.length : Int)) = false := decide_eq_false c3
    clear c3
    obtain rfl := Option.some.inj H
    go_wp2
    go_ret
    exact ⟨by first | rfl | (simp; done) | (simp [*]; done), by repeat (first | exact Drawn0.refl _ | apply Drawn0.step)⟩
end Go.Proofs.YtemhccjjcioodaaGreat.PClusterFinest
end
section
namespace Go.Proofs.YtemhccjjcioodaaGreat.UFinest
abbrev Lab := Nat → Nat
def merge (r : Lab) (a b : Nat) : Lab := fun x => if r x = max (r a) (r b) then min (r a) (r b) else r x
def two (r : Lab) (a b : Nat) : Bool := decide (r a ≠ r b)
theorem merge_eq (r : Lab) (a b : Nat) : merge r a b a = merge r a b b := by
 unfold merge
 by_cases h : r a ≤ r b
 ·rw [Nat.max_eq_right h, Nat.min_eq_left h, if_pos rfl]
  split <;> rfl
 ·rw [Nat.max_eq_left (by omega), Nat.min_eq_right (by omega), if_pos rfl]
  split <;> rfl
theorem merge_keep (r : Lab) (a b x y : Nat) (h : r x = r y) : merge r a b x = merge r a b y := by unfold merge; rw [h]
theorem merge_same (r : Lab) (a b : Nat) (h : r a = r b) : merge r a b = r := by
 funext x
 unfold merge
 rw [h, Nat.max_self, Nat.min_self]
 split
 ·rename_i h1; exact h1.symm
 ·rfl
theorem merge_le (r : Lab) (a b x : Nat) : merge r a b x ≤ r x := by
 unfold merge
 split
 ·rename_i h; rw [h]; omega
 ·exact Nat.le_refl _
structure Eqv (R : Nat → Nat → Prop) : Prop where
 refl : ∀ x, R x x
 symm : ∀ x y, R x y → R y x
 trans : ∀ x y z, R x y → R y z → R x z
def Sound (R : Nat → Nat → Prop) (r : Lab) : Prop := ∀ x, R x (r x)
theorem sound_merge {R : Nat → Nat → Prop} {r : Lab} (hR : Eqv R) (h : Sound R r) {a b : Nat} (hab : R a b) : Sound R (merge r a b) := by
 intro x
 unfold merge
 split
 ·rename_i hx
  have h1 : R (r a) (r b) := hR.trans _ _ _ (hR.symm _ _ (h a)) (hR.trans _ _ _ hab (h b))
  have hxx := h x
  rw [hx] at hxx
  by_cases hle : r a ≤ r b
  ·rw [Nat.max_eq_right hle] at hxx
   rw [Nat.min_eq_left hle]
   exact hR.trans _ _ _ hxx (hR.symm _ _ h1)
  ·rw [Nat.max_eq_left (by omega)] at hxx
   rw [Nat.min_eq_right (by omega)]
   exact hR.trans _ _ _ hxx h1
 ·exact h x
structure Lk where
 a : Nat
 b : Nat
 c : Nat
 d : Nat
def allF (r : Lab) (base : Nat) : Nat → Lab
 | 0 => r
 | k + 1 => merge (allF r base k) base (base + k + 1)
def linkF (n : Nat) (r : Lab) (x : Lk) : Lab := merge (allF (allF r x.a (x.b - x.a - 1)) (n + x.c) (x.d - x.c - 1)) x.a (n + x.c)
def linksF (n : Nat) (r : Lab) (l : List Lk) : Lab := l.foldl (linkF n) r
def linkedB (l : List Lk) (i : Nat) : Bool := l.any fun x => decide (x.a ≤ i) && decide (i < x.b)
def firstF (l : List Lk) (n : Nat) : Nat := (List.range n).findIdx (linkedB l)
def strayF (l : List Lk) (n : Nat) (r : Lab) : Nat → Lab
 | 0 => r
 | k + 1 => let q := strayF l n r k
  if linkedB l k then q else if firstF l n < k then merge q (k - 1) k else merge q k (k + 1)
def lastF (r : Lab) (lo : Nat) : Nat → Nat → Nat
 | 0 => fun _ => 0
 | k + 1 => fun v => if r (lo + k) = v then lo + k else lastF r lo k v
def closeIn (last : Nat → Nat) (i : Nat) : Nat → Nat → Lab → Bool → Lab × Bool
 | 0, _, r, t => (r, t)
 | f + 1, k, r, t => if k ≤ last (r i) then closeIn last i f (k + 1) (merge r i k) (two r i k || t) else (r, t)
def closeTo (last : Nat → Nat) (lo hi : Nat) : Nat → Lab × Bool → Lab × Bool
 | 0, s => s
 | k + 1, s => let q := closeTo last lo hi k s
  closeIn last (lo + k) (hi + 1) (lo + k + 1) q.1 q.2
def closeF (r : Lab) (lo hi : Nat) : Lab × Bool := closeTo (lastF r lo (hi - lo)) lo hi (hi - lo) (r, false)
def roundF (n m : Nat) (r : Lab) : Lab × Bool :=
 let q := closeF r 0 n
 let p := closeF q.1 n (n + m)
 (p.1, q.2 || p.2)
def roundsF (n m : Nat) : Nat → Lab → Lab
 | 0, r => r
 | f + 1, r => let q := roundF n m r
  if q.2 then roundsF n m f q.1 else q.1
structure Closed (n m : Nat) (l : List Lk) (R : Nat → Nat → Prop) : Prop where
 eqv : Eqv R
 ins : ∀ x ∈ l, ∀ i, x.a ≤ i → i < x.b → R x.a i
 outs : ∀ x ∈ l, ∀ i, x.c ≤ i → i < x.d → R (n + x.c) (n + i)
 both : ∀ x ∈ l, R x.a (n + x.c)
 stray : ∀ i, 0 < i → i < n → linkedB l i = false → R (i - 1) i
 ahead : ∀ i, i < firstF l n → firstF l n < n → R i (i + 1)
 conv1 : ∀ i j k, i ≤ j → j ≤ k → k < n → R i k → R i j
 conv2 : ∀ i j k, n ≤ i → i ≤ j → j ≤ k → k < n + m → R i k → R i j
theorem sound_allF {R : Nat → Nat → Prop} (hR : Eqv R) {r : Lab} (h : Sound R r) (base k : Nat) (hj : ∀ i, base ≤ i → i ≤ base + k → R base i) : Sound R (allF r base k) := by
 induction k with
 | zero => exact h
 | succ k ih => exact sound_merge hR (ih fun i h1 h2 => hj i h1 (by omega)) (hj _ (by omega) (by omega))
theorem allF_eq (r : Lab) (base k : Nat) : ∀ i, base ≤ i → i ≤ base + k → allF r base k base = allF r base k i := by
 induction k with
 | zero => intro i h1 h2; rw [show i = base by omega]
 | succ k ih =>
  intro i h1 h2
  unfold allF
  by_cases hi : i = base + k + 1
  ·rw [hi]; exact merge_eq _ _ _
  ·exact merge_keep _ _ _ _ _ (ih i h1 (by omega))
theorem allF_keep (r : Lab) (base k x y : Nat) (h : r x = r y) : allF r base k x = allF r base k y := by
 induction k with
 | zero => exact h
 | succ k ih => exact merge_keep _ _ _ _ _ ih
theorem linkF_keep (n : Nat) (r : Lab) (z : Lk) (x y : Nat) (h : r x = r y) : linkF n r z x = linkF n r z y := merge_keep _ _ _ _ _ (allF_keep _ _ _ _ _ (allF_keep _ _ _ _ _ h))
theorem linksF_keep (n : Nat) (l : List Lk) : ∀ (r : Lab) (x y : Nat), r x = r y → linksF n r l x = linksF n r l y := by
 induction l with
 | nil => intro r x y h; exact h
 | cons z t ih => intro r x y h; exact ih _ _ _ (linkF_keep n r z x y h)
theorem sound_linksF {n m : Nat} {l0 : List Lk} {R : Nat → Nat → Prop} (hR : Closed n m l0 R) (l : List Lk) (hl : ∀ x ∈ l, x ∈ l0) (hw : ∀ x ∈ l, x.a < x.b ∧ x.c < x.d) : ∀ r, Sound R r → Sound R (linksF n r l) := by
 induction l with
 | nil => intro r h; exact h
 | cons z t ih =>
  intro r h
  have hz := hl z List.mem_cons_self
  have hzw := hw z List.mem_cons_self
  refine ih (fun x hx => hl x (List.mem_cons_of_mem _ hx)) (fun x hx => hw x (List.mem_cons_of_mem _ hx)) _ ?_
  refine sound_merge hR.eqv (sound_allF hR.eqv (sound_allF hR.eqv h _ _ ?_) _ _ ?_) (hR.both z hz)
  ·intro i h1 h2; exact hR.ins z hz i h1 (by omega)
  ·intro i h1 h2
   have := hR.outs z hz (i - n) (by omega) (by omega)
   rwa [show n + (i - n) = i by omega] at this
theorem linkF_ins (n : Nat) (r : Lab) (z : Lk) (hz : z.a < z.b) (i : Nat) (h1 : z.a ≤ i) (h2 : i < z.b) : linkF n r z z.a = linkF n r z i := merge_keep _ _ _ _ _ (allF_keep _ _ _ _ _ (allF_eq _ _ _ i h1 (by omega)))
theorem linkF_outs (n : Nat) (r : Lab) (z : Lk) (hz : z.c < z.d) (i : Nat) (h1 : z.c ≤ i) (h2 : i < z.d) : linkF n r z (n + z.c) = linkF n r z (n + i) := merge_keep _ _ _ _ _ (allF_eq _ _ _ (n + i) (by omega) (by omega))
theorem linkF_both (n : Nat) (r : Lab) (z : Lk) : linkF n r z z.a = linkF n r z (n + z.c) := merge_eq _ _ _
theorem linksF_all (n : Nat) (l : List Lk) (hw : ∀ x ∈ l, x.a < x.b ∧ x.c < x.d) : ∀ r, ∀ z ∈ l, (∀ i, z.a ≤ i → i < z.b → linksF n r l z.a = linksF n r l i) ∧ (∀ i, z.c ≤ i → i < z.d → linksF n r l (n + z.c) = linksF n r l (n + i)) ∧ linksF n r l z.a = linksF n r l (n + z.c) := by
 induction l with
 | nil => intro r z h; simp at h
 | cons y t ih =>
  intro r z hz
  rcases List.mem_cons.1 hz with rfl | hz
  ·have := hw z List.mem_cons_self
   exact ⟨fun i h1 h2 => linksF_keep n t _ _ _ (linkF_ins n r z this.1 i h1 h2), fun i h1 h2 => linksF_keep n t _ _ _ (linkF_outs n r z this.2 i h1 h2), linksF_keep n t _ _ _ (linkF_both n r z)⟩
  ·exact ih (fun x hx => hw x (List.mem_cons_of_mem _ hx)) _ z hz
theorem strayF_keep (l : List Lk) (n : Nat) (r : Lab) (k x y : Nat) (h : r x = r y) : strayF l n r k x = strayF l n r k y := by
 induction k with
 | zero => exact h
 | succ k ih =>
  unfold strayF
  dsimp only
  split
  ·exact ih
  ·split <;> exact merge_keep _ _ _ _ _ ih
theorem strayF_more (l : List Lk) (n : Nat) (r : Lab) (k x y : Nat) (h : strayF l n r k x = strayF l n r k y) : ∀ d, strayF l n r (k + d) x = strayF l n r (k + d) y := by
 intro d
 induction d with
 | zero => exact h
 | succ d ih =>
  rw [show k + (d + 1) = (k + d) + 1 by omega]
  unfold strayF
  dsimp only
  split
  ·exact ih
  ·split <;> exact merge_keep _ _ _ _ _ ih
theorem first_linked (l : List Lk) (n : Nat) (h : firstF l n < n) : linkedB l (firstF l n) = true := by
 unfold firstF at h ⊢
 have := List.findIdx_getElem (xs := List.range n) (p := linkedB l) (w := by simpa using h)
 simpa using this
theorem first_least (l : List Lk) (n i : Nat) (h : i < firstF l n) (hn : firstF l n ≤ n) : linkedB l i = false := by
 unfold firstF at h hn
 have := List.not_of_lt_findIdx (xs := List.range n) (p := linkedB l) h
 simpa using this
theorem first_le (l : List Lk) (n : Nat) : firstF l n ≤ n := by
 unfold firstF
 have := List.findIdx_le_length (xs := List.range n) (p := linkedB l)
 simpa using this
theorem sound_stray {n m : Nat} {l : List Lk} {R : Nat → Nat → Prop} (hR : Closed n m l R) (hf : firstF l n < n) (k : Nat) (hk : k ≤ n) : ∀ r, Sound R r → Sound R (strayF l n r k) := by
 induction k with
 | zero => intro r h; exact h
 | succ k ih =>
  intro r h
  have ih' := ih (by omega) r h
  unfold strayF
  dsimp only
  split
  ·exact ih'
  ·rename_i hl
   split
   ·rename_i h1
    exact sound_merge hR.eqv ih' (hR.stray k (by omega) (by omega) (by simpa using hl))
   ·rename_i h1
    have : k ≠ firstF l n := fun e => hl (by rw [e]; exact first_linked l n hf)
    exact sound_merge hR.eqv ih' (hR.ahead k (by omega) hf)
theorem stray_behind (l : List Lk) (n : Nat) (r : Lab) (i : Nat) (h0 : firstF l n < i) (hn : i < n) (hl : linkedB l i = false) : strayF l n r n (i - 1) = strayF l n r n i := by
 have h : strayF l n r (i + 1) (i - 1) = strayF l n r (i + 1) i := by
  unfold strayF
  dsimp only
  rw [hl, if_neg (by simp), if_pos h0]
  exact merge_eq _ _ _
 have := strayF_more l n r (i + 1) _ _ h (n - (i + 1))
 rwa [show i + 1 + (n - (i + 1)) = n by omega] at this
theorem stray_ahead (l : List Lk) (n : Nat) (r : Lab) (i : Nat) (h0 : i < firstF l n) : strayF l n r n i = strayF l n r n (i + 1) := by
 have hn := first_le l n
 have h : strayF l n r (i + 1) i = strayF l n r (i + 1) (i + 1) := by
  unfold strayF
  dsimp only
  rw [first_least l n i h0 hn, if_neg (by simp), if_neg (by omega)]
  exact merge_eq _ _ _
 have := strayF_more l n r (i + 1) _ _ h (n - (i + 1))
 rwa [show i + 1 + (n - (i + 1)) = n by omega] at this
theorem lastF_or (r : Lab) (lo : Nat) (k : Nat) (v : Nat) : lastF r lo k v = 0 ∨ (lo ≤ lastF r lo k v ∧ lastF r lo k v < lo + k ∧ r (lastF r lo k v) = v) := by
 induction k with
 | zero => exact .inl rfl
 | succ k ih =>
  unfold lastF
  split
  ·rename_i h; exact .inr ⟨by omega, by omega, h⟩
  ·rcases ih with h | ⟨h1, h2, h3⟩
   ·exact .inl h
   ·exact .inr ⟨h1, by omega, h3⟩
theorem lastF_ge (r : Lab) (lo : Nat) (k : Nat) (j : Nat) (h1 : lo ≤ j) (h2 : j < lo + k) : j ≤ lastF r lo k (r j) := by
 induction k with
 | zero => omega
 | succ k ih =>
  unfold lastF
  split
  ·omega
  ·rename_i h
   by_cases hj : j = lo + k
   ·subst hj; exact absurd rfl h
   ·exact ih (by omega)
theorem lastF_lt (r : Lab) (lo hi : Nat) (h : lo < hi) (v : Nat) : lastF r lo (hi - lo) v < hi := by
 rcases lastF_or r lo (hi - lo) v with h1 | ⟨_, h1, _⟩ <;> omega
def Between (R : Nat → Nat → Prop) (lo hi : Nat) : Prop := ∀ i j k, lo ≤ i → i ≤ j → j ≤ k → k < hi → R i k → R i j
def LastOk (R : Nat → Nat → Prop) (lo hi : Nat) (last : Nat → Nat) : Prop := ∀ v, last v = 0 ∨ (lo ≤ last v ∧ last v < hi ∧ R v (last v))
theorem sound_closeIn {R : Nat → Nat → Prop} (hR : Eqv R) {lo hi : Nat} (hb : Between R lo hi) {last : Nat → Nat} (hl : LastOk R lo hi last) (i : Nat) (hi0 : lo ≤ i) (f : Nat) : ∀ (k : Nat) (r : Lab) (t : Bool), i < k → Sound R r → Sound R (closeIn last i f k r t).1 := by
 induction f with
 | zero => intro k r t _ h; exact h
 | succ f ih =>
  intro k r t hk h
  unfold closeIn
  split
  ·rename_i hle
   refine ih _ _ _ (by omega) (sound_merge hR h ?_)
   rcases hl (r i) with h0 | ⟨h1, h2, h3⟩
   ·omega
   ·exact hb i k (last (r i)) hi0 (by omega) hle h2 (hR.trans _ _ _ (h i) h3)
  ·exact h
theorem sound_closeTo {R : Nat → Nat → Prop} (hR : Eqv R) {lo hi : Nat} (hb : Between R lo hi) {last : Nat → Nat} (hl : LastOk R lo hi last) (k : Nat) (s : Lab × Bool) (h : Sound R s.1) : Sound R (closeTo last lo hi k s).1 := by
 induction k with
 | zero => exact h
 | succ k ih =>
  unfold closeTo
  exact sound_closeIn hR hb hl (lo + k) (by omega) (hi + 1) _ _ _ (by omega) ih
theorem sound_closeF {R : Nat → Nat → Prop} (hR : Eqv R) {lo hi : Nat} (hb : Between R lo hi) {r : Lab} (h : Sound R r) : Sound R (closeF r lo hi).1 := by
 refine sound_closeTo hR hb (fun v => ?_) _ _ h
 rcases lastF_or r lo (hi - lo) v with h1 | ⟨h1, h2, h3⟩
 ·exact .inl h1
 ·refine .inr ⟨h1, by omega, ?_⟩
  have := h (lastF r lo (hi - lo) v)
  rw [h3] at this
  exact hR.symm _ _ this
theorem closeIn_false (last : Nat → Nat) (i : Nat) (f : Nat) : ∀ (k : Nat) (r : Lab) (t : Bool), (closeIn last i f k r t).2 = false → t = false ∧ (closeIn last i f k r t).1 = r ∧ ∀ j, k ≤ j → j ≤ last (r i) → j < k + f → r i = r j := by
 induction f with
 | zero => intro k r t h; exact ⟨h, rfl, fun j h1 _ h2 => by omega⟩
 | succ f ih =>
  intro k r t h
  unfold closeIn at h ⊢
  split
  ·rename_i hle
   rw [if_pos hle] at h
   obtain ⟨h1, h2, h3⟩ := ih _ _ _ h
   rw [Bool.or_eq_false_iff] at h1
   have he : r i = r k := by
    have := h1.1
    unfold two at this
    simpa using this
   have hm := merge_same r i k he
   rw [hm] at h2 h3 ⊢
   refine ⟨h1.2, h2, fun j ha hb hc => ?_⟩
   by_cases hj : j = k
   ·rw [hj]; exact he
   ·exact h3 j (by omega) hb (by omega)
  ·rename_i hle
   rw [if_neg hle] at h
   exact ⟨h, rfl, fun j ha hb hc => by omega⟩
theorem closeTo_false (last : Nat → Nat) (lo hi : Nat) (k : Nat) (s : Lab × Bool) : (closeTo last lo hi k s).2 = false → s.2 = false ∧ (closeTo last lo hi k s).1 = s.1 ∧ ∀ i j, lo ≤ i → i < lo + k → i < j → j ≤ last (s.1 i) → j < hi → s.1 i = s.1 j := by
 induction k with
 | zero => intro h; exact ⟨h, rfl, fun i j h1 h2 => by omega⟩
 | succ k ih =>
  intro h
  unfold closeTo at h ⊢
  dsimp only at h ⊢
  obtain ⟨h1, h2, h3⟩ := closeIn_false _ _ _ _ _ _ h
  obtain ⟨g1, g2, g3⟩ := ih h1
  refine ⟨g1, by rw [h2, g2], fun i j ha hb hc hd he => ?_⟩
  by_cases hi' : i = lo + k
  ·subst hi'
   rw [g2] at h3
   exact h3 j (by omega) hd (by omega)
  ·exact g3 i j ha (by omega) hc hd he
theorem closeF_false (r : Lab) (lo hi : Nat) (h : (closeF r lo hi).2 = false) : (closeF r lo hi).1 = r ∧ Between (fun x y => r x = r y) lo hi := by
 unfold closeF at h ⊢
 obtain ⟨_, h2, h3⟩ := closeTo_false _ _ _ _ _ h
 refine ⟨h2, fun i j k h0 h1 hjk hk he => ?_⟩
 by_cases hij : i = j
 ·rw [hij]
 ·have hlt : lo < hi := by omega
  have := lastF_ge r lo (hi - lo) k (by omega) (by omega)
  dsimp only at he
  rw [← he] at this
  exact h3 i j h0 (by omega) (by omega) (by show j ≤ lastF r lo (hi - lo) (r i); omega) (by omega)
theorem roundF_false (n m : Nat) (r : Lab) (h : (roundF n m r).2 = false) : (roundF n m r).1 = r ∧ Between (fun x y => r x = r y) 0 n ∧ Between (fun x y => r x = r y) n (n + m) := by
 unfold roundF at h ⊢
 dsimp only at h ⊢
 rw [Bool.or_eq_false_iff] at h
 obtain ⟨h1, h2⟩ := closeF_false _ _ _ h.1
 rw [h1] at h ⊢
 obtain ⟨h3, h4⟩ := closeF_false _ _ _ h.2
 exact ⟨h3, h2, h4⟩
theorem closeIn_keep (last : Nat → Nat) (i : Nat) (f : Nat) : ∀ (k : Nat) (r : Lab) (t : Bool) (x y : Nat), r x = r y → (closeIn last i f k r t).1 x = (closeIn last i f k r t).1 y := by
 induction f with
 | zero => intro k r t x y h; exact h
 | succ f ih =>
  intro k r t x y h
  unfold closeIn
  split
  ·exact ih _ _ _ _ _ (merge_keep _ _ _ _ _ h)
  ·exact h
theorem closeTo_keep (last : Nat → Nat) (lo hi k : Nat) (s : Lab × Bool) (x y : Nat) (h : s.1 x = s.1 y) : (closeTo last lo hi k s).1 x = (closeTo last lo hi k s).1 y := by
 induction k with
 | zero => exact h
 | succ k ih => unfold closeTo; exact closeIn_keep _ _ _ _ _ _ _ _ ih
theorem roundF_keep (n m : Nat) (r : Lab) (x y : Nat) (h : r x = r y) : (roundF n m r).1 x = (roundF n m r).1 y := by
 unfold roundF closeF
 exact closeTo_keep _ _ _ _ _ _ _ (closeTo_keep _ _ _ _ _ _ _ h)
theorem roundsF_keep (n m : Nat) (f : Nat) : ∀ (r : Lab) (x y : Nat), r x = r y → roundsF n m f r x = roundsF n m f r y := by
 induction f with
 | zero => intro r x y h; exact h
 | succ f ih =>
  intro r x y h
  unfold roundsF
  dsimp only
  split
  ·exact ih _ _ _ (roundF_keep n m r x y h)
  ·exact roundF_keep n m r x y h
theorem sound_roundF {n m : Nat} {l : List Lk} {R : Nat → Nat → Prop} (hR : Closed n m l R) {r : Lab} (h : Sound R r) : Sound R (roundF n m r).1 :=
 sound_closeF hR.eqv (fun i j k h0 h1 h2 h3 h4 => hR.conv2 i j k h0 h1 h2 h3 h4) (sound_closeF hR.eqv (fun i j k h0 h1 h2 h3 h4 => hR.conv1 i j k h1 h2 h3 h4) h)
theorem sound_roundsF {n m : Nat} {l : List Lk} {R : Nat → Nat → Prop} (hR : Closed n m l R) (f : Nat) : ∀ (r : Lab), Sound R r → Sound R (roundsF n m f r) := by
 induction f with
 | zero => intro r h; exact h
 | succ f ih =>
  intro r h
  unfold roundsF
  dsimp only
  split
  ·exact ih _ (sound_roundF hR h)
  ·exact sound_roundF hR h
def sumL (r : Lab) : Nat → Nat
 | 0 => 0
 | N + 1 => sumL r N + r N
theorem sumL_le {r q : Lab} (h : ∀ x, q x ≤ r x) (N : Nat) : sumL q N ≤ sumL r N := by
 induction N with
 | zero => exact Nat.le_refl _
 | succ N ih => unfold sumL; have := h N; omega
theorem sumL_lt {r q : Lab} (h : ∀ x, q x ≤ r x) (N x : Nat) (hx : x < N) (hl : q x < r x) : sumL q N < sumL r N := by
 induction N with
 | zero => omega
 | succ N ih =>
  unfold sumL
  have h1 := h N
  by_cases hxn : x = N
  ·subst hxn; have := sumL_le h x; omega
  ·have := ih (by omega); omega
theorem two_lt (r : Lab) (a b N : Nat) (ha : a < N) (hb : b < N) (h : two r a b = true) : sumL (merge r a b) N < sumL r N := by
 unfold two at h
 have hne : r a ≠ r b := by simpa using h
 by_cases hle : r a ≤ r b
 ·refine sumL_lt (merge_le r a b) N b hb ?_
  unfold merge
  rw [if_pos (by omega)]; omega
 ·refine sumL_lt (merge_le r a b) N a ha ?_
  unfold merge
  rw [if_pos (by omega)]; omega
theorem closeIn_sum (last : Nat → Nat) (i N : Nat) (hi : i < N) (hl : ∀ v, last v < N) (f : Nat) : ∀ (k : Nat) (r : Lab) (t : Bool), sumL (closeIn last i f k r t).1 N ≤ sumL r N ∧ ((closeIn last i f k r t).2 = true → t = true ∨ sumL (closeIn last i f k r t).1 N < sumL r N) := by
 induction f with
 | zero => intro k r t; exact ⟨Nat.le_refl _, fun h => .inl h⟩
 | succ f ih =>
  intro k r t
  unfold closeIn
  split
  ·rename_i hle
   obtain ⟨h1, h2⟩ := ih (k + 1) (merge r i k) (two r i k || t)
   have hm := sumL_le (merge_le r i k) N
   refine ⟨Nat.le_trans h1 hm, fun h => ?_⟩
   rcases h2 h with h3 | h3
   ·rw [Bool.or_eq_true] at h3
    rcases h3 with h3 | h3
    ·have := two_lt r i k N hi (by have := hl (r i); omega) h3
     exact .inr (by omega)
    ·exact .inl h3
   ·exact .inr (by omega)
  ·exact ⟨Nat.le_refl _, fun h => .inl h⟩
theorem closeTo_sum (last : Nat → Nat) (lo hi N : Nat) (hN : hi ≤ N) (hl : ∀ v, last v < N) (k : Nat) (hk : lo + k ≤ hi) (s : Lab × Bool) : sumL (closeTo last lo hi k s).1 N ≤ sumL s.1 N ∧ ((closeTo last lo hi k s).2 = true → s.2 = true ∨ sumL (closeTo last lo hi k s).1 N < sumL s.1 N) := by
 induction k with
 | zero => exact ⟨Nat.le_refl _, fun h => .inl h⟩
 | succ k ih =>
  unfold closeTo
  dsimp only
  obtain ⟨h1, h2⟩ := ih (by omega)
  obtain ⟨g1, g2⟩ := closeIn_sum last (lo + k) N (by omega) hl (hi + 1) (lo + k + 1) (closeTo last lo hi k s).1 (closeTo last lo hi k s).2
  refine ⟨by omega, fun h => ?_⟩
  rcases g2 h with h3 | h3
  ·rcases h2 h3 with h4 | h4
   ·exact .inl h4
   ·exact .inr (by omega)
  ·exact .inr (by omega)
theorem closeF_sum (r : Lab) (lo hi N : Nat) (h : lo < hi) (hN : hi ≤ N) : sumL (closeF r lo hi).1 N ≤ sumL r N ∧ ((closeF r lo hi).2 = true → sumL (closeF r lo hi).1 N < sumL r N) := by
 unfold closeF
 obtain ⟨h1, h2⟩ := closeTo_sum (lastF r lo (hi - lo)) lo hi N hN (fun v => by have := lastF_lt r lo hi h v; omega) (hi - lo) (by omega) (r, false)
 exact ⟨h1, fun h => (h2 h).resolve_left (by simp)⟩
theorem roundF_sum (n m : Nat) (hn : 0 < n) (hm : 0 < m) (r : Lab) : sumL (roundF n m r).1 (n + m) ≤ sumL r (n + m) ∧ ((roundF n m r).2 = true → sumL (roundF n m r).1 (n + m) < sumL r (n + m)) := by
 unfold roundF
 dsimp only
 obtain ⟨h1, h2⟩ := closeF_sum r 0 n (n + m) hn (by omega)
 obtain ⟨h3, h4⟩ := closeF_sum (closeF r 0 n).1 n (n + m) (n + m) (by omega) (Nat.le_refl _)
 refine ⟨by omega, fun h => ?_⟩
 rw [Bool.or_eq_true] at h
 rcases h with h | h
 ·have := h2 h; omega
 ·have := h4 h; omega
def endF (n m : Nat) (r : Lab) : Lab := roundsF n m (sumL r (n + m) + 1) r
theorem rounds_fuel (n m : Nat) (hn : 0 < n) (hm : 0 < m) (s : Nat) : ∀ (r : Lab) (f g : Nat), sumL r (n + m) ≤ s → sumL r (n + m) < f → sumL r (n + m) < g → roundsF n m f r = roundsF n m g r := by
 induction s with
 | zero =>
  intro r f g h hf hg
  obtain ⟨f, rfl⟩ : ∃ x, f = x + 1 := ⟨f - 1, by omega⟩
  obtain ⟨g, rfl⟩ : ∃ x, g = x + 1 := ⟨g - 1, by omega⟩
  unfold roundsF
  dsimp only
  have := (roundF_sum n m hn hm r).2
  split
  ·rename_i h2; have := this h2; omega
  ·rfl
 | succ s ih =>
  intro r f g h hf hg
  obtain ⟨f, rfl⟩ : ∃ x, f = x + 1 := ⟨f - 1, by omega⟩
  obtain ⟨g, rfl⟩ : ∃ x, g = x + 1 := ⟨g - 1, by omega⟩
  unfold roundsF
  dsimp only
  have := (roundF_sum n m hn hm r).2
  split
  ·rename_i h2
   have := this h2
   exact ih _ _ _ (by omega) (by omega) (by omega)
  ·rfl
theorem endF_step (n m : Nat) (hn : 0 < n) (hm : 0 < m) (r : Lab) : endF n m r = if (roundF n m r).2 then endF n m (roundF n m r).1 else (roundF n m r).1 := by
 conv => lhs; unfold endF
 unfold roundsF
 dsimp only
 split
 ·rename_i h
  have := (roundF_sum n m hn hm r).2 h
  exact rounds_fuel n m hn hm _ _ _ _ (Nat.le_refl _) this (by omega)
 ·rfl
theorem endF_end (n m : Nat) (hn : 0 < n) (hm : 0 < m) (s : Nat) : ∀ r : Lab, sumL r (n + m) ≤ s → Between (fun x y => endF n m r x = endF n m r y) 0 n ∧ Between (fun x y => endF n m r x = endF n m r y) n (n + m) := by
 induction s with
 | zero =>
  intro r h
  rw [endF_step n m hn hm r]
  split
  ·rename_i h2; have := (roundF_sum n m hn hm r).2 h2; omega
  ·rename_i h2
   obtain ⟨h3, h4⟩ := roundF_false n m r (by simpa using h2)
   rw [h3]; exact h4
 | succ s ih =>
  intro r h
  rw [endF_step n m hn hm r]
  split
  ·rename_i h2
   have := (roundF_sum n m hn hm r).2 h2
   exact ih _ (by omega)
  ·rename_i h2
   obtain ⟨h3, h4⟩ := roundF_false n m r (by simpa using h2)
   rw [h3]; exact h4
theorem endF_keep (n m : Nat) (r : Lab) (x y : Nat) (h : r x = r y) : endF n m r x = endF n m r y := roundsF_keep n m _ r x y h
def idL : Lab := fun x => x
def finL (n m : Nat) (l : List Lk) : Lab := endF n m (strayF l n (linksF n idL l) n)
theorem finL_sound {n m : Nat} {l : List Lk} {R : Nat → Nat → Prop} (hR : Closed n m l R) (hw : ∀ x ∈ l, x.a < x.b ∧ x.c < x.d) (hf : firstF l n < n) : Sound R (finL n m l) :=
 sound_roundsF hR _ _ (sound_stray hR hf n (Nat.le_refl _) _ (sound_linksF hR l (fun _ h => h) hw _ (fun x => hR.eqv.refl x)))
theorem finL_closed {n m : Nat} {l : List Lk} (hn : 0 < n) (hm : 0 < m) (hw : ∀ x ∈ l, x.a < x.b ∧ x.c < x.d) (hf : firstF l n < n) : Closed n m l (fun x y => finL n m l x = finL n m l y) where
 eqv := ⟨fun _ => rfl, fun _ _ h => h.symm, fun _ _ _ h k => h.trans k⟩
 ins := fun x hx i h1 h2 => endF_keep _ _ _ _ _ (strayF_keep _ _ _ _ _ _ ((linksF_all n l hw idL x hx).1 i h1 h2))
 outs := fun x hx i h1 h2 => endF_keep _ _ _ _ _ (strayF_keep _ _ _ _ _ _ ((linksF_all n l hw idL x hx).2.1 i h1 h2))
 both := fun x hx => endF_keep _ _ _ _ _ (strayF_keep _ _ _ _ _ _ (linksF_all n l hw idL x hx).2.2)
 stray := fun i h0 hi hl => by
  by_cases hif : firstF l n < i
  ·exact endF_keep _ _ _ _ _ (stray_behind l n _ i hif hi hl)
  ·have hne : i ≠ firstF l n := fun e => by
    have := first_linked l n hf
    rw [← e, hl] at this
    cases this
   have := stray_ahead l n (linksF n idL l) (i - 1) (by omega)
   rw [show i - 1 + 1 = i by omega] at this
   exact endF_keep _ _ _ _ _ this
 ahead := fun i hi _ => endF_keep _ _ _ _ _ (stray_ahead l n _ i hi)
 conv1 := fun i j k h1 h2 h3 h4 => (endF_end n m hn hm _ _ (Nat.le_refl _)).1 i j k (Nat.zero_le _) h1 h2 h3 h4
 conv2 := fun i j k h0 h1 h2 h3 h4 => (endF_end n m hn hm _ _ (Nat.le_refl _)).2 i j k h0 h1 h2 h3 h4
end Go.Proofs.YtemhccjjcioodaaGreat.UFinest
namespace Go.Proofs.YtemhccjjcioodaaGreat.UFinest
def setL (L : Lab) (lo hi v : Nat) : Lab := fun x => if lo ≤ x ∧ x < hi then v else L x
def chg (L : Lab) (lo : Nat) (v : Nat) : Nat → Bool
 | 0 => false
 | k + 1 => chg L lo v k || decide (L (lo + k) ≠ v)
def leastL (L : Lab) (lo : Nat) : Nat → Nat
 | 0 => L lo
 | k + 1 => min (leastL L lo k) (L (lo + k))
def hullL (L : Lab) (lo v : Nat) : Nat → Nat × Nat
 | 0 => (0, 0)
 | k + 1 => let s := hullL L lo v k
  if L (lo + k) = v then ((if s.2 = 0 then k else s.1), k + 1) else s
theorem hullL_is (L : Lab) (lo v k : Nat) : ((hullL L lo v k) = (0, 0) ∧ ∀ i, i < k → L (lo + i) ≠ v) ∨ ((hullL L lo v k).1 < (hullL L lo v k).2 ∧ (hullL L lo v k).2 ≤ k ∧ L (lo + (hullL L lo v k).1) = v ∧ L (lo + (hullL L lo v k).2 - 1) = v ∧ ∀ i, i < k → L (lo + i) = v → (hullL L lo v k).1 ≤ i ∧ i < (hullL L lo v k).2) := by
 induction k with
 | zero => exact .inl ⟨rfl, fun i h => by omega⟩
 | succ k ih =>
  unfold hullL
  dsimp only
  split
  ·rename_i h
   right
   rcases ih with ⟨h1, h2⟩ | ⟨h1, h2, h3, h4, h5⟩
   ·rw [h1]
    refine ⟨by simp, by simp, by simpa using h, by simpa [Nat.add_sub_assoc] using h, fun i hi he => ?_⟩
    by_cases hik : i = k
    ·subst hik; simp
    ·exact absurd he (h2 i (by omega))
   ·rw [if_neg (by omega)]
    refine ⟨by dsimp only; omega, by dsimp only; omega, h3, by dsimp only; rw [show lo + (k + 1) - 1 = lo + k by omega]; exact h, fun i hi he => ?_⟩
    dsimp only
    by_cases hik : i = k
    ·subst hik; omega
    ·have := h5 i (by omega) he; omega
  ·rename_i h
   rcases ih with ⟨h1, h2⟩ | ⟨h1, h2, h3, h4, h5⟩
   ·left
    refine ⟨h1, fun i hi he => ?_⟩
    by_cases hik : i = k
    ·subst hik; exact h he
    ·exact h2 i (by omega) he
   ·right
    refine ⟨h1, by omega, h3, h4, fun i hi he => ?_⟩
    by_cases hik : i = k
    ·subst hik; exact absurd he h
    ·exact h5 i (by omega) he
def wholeTo (L : Lab) (lo len : Nat) : Nat → Lab × Bool
 | 0 => (L, false)
 | k + 1 => let q := wholeTo L lo len k
  let s := hullL q.1 lo (q.1 (lo + k)) len
  let v := leastL q.1 (lo + s.1) (s.2 - s.1)
  (setL q.1 (lo + s.1) (lo + s.1 + (s.2 - s.1)) v, chg q.1 (lo + s.1) v (s.2 - s.1) || q.2)
end Go.Proofs.YtemhccjjcioodaaGreat.UFinest
end
section
namespace Go.Proofs.YtemhccjjcioodaaGreat.U
open Go.RowKit Go.Proofs.YtemhccjjcioodaaGreatW.PrintWords
theorem ev_now {α : Type} (r : α) : Ev (fun _ => some r) r := ⟨0, fun _ _ => rfl⟩
theorem ev_const {α : Type} {x : Option α} {r : α} (h : x = some r) : Ev (fun _ => x) r := ⟨0, fun _ _ => h⟩
theorem ev_pos {α : Type} {c : Prop} [Decidable c] {f g : Nat → Option α} {r : α} (hc : c) (h : Ev f r) : Ev (fun k => if c then f k else g k) r := by
 simpa only [if_pos hc] using h
theorem ev_neg {α : Type} {c : Prop} [Decidable c] {f g : Nat → Option α} {r : α} (hc : ¬ c) (h : Ev g r) : Ev (fun k => if c then f k else g k) r := by
 simpa only [if_neg hc] using h
theorem ev_ite {α : Type} {c : Prop} [Decidable c] {f g : Nat → Option α} {r : α} (h : c → Ev f r) (h' : ¬ c → Ev g r) : Ev (fun k => if c then f k else g k) r := by
 by_cases hc : c
 ·exact ev_pos hc (h hc)
 ·exact ev_neg hc (h' hc)
theorem ev_bind {α β : Type} {g : Nat → Option α} {f : Nat → α → Option β} {a : α} {r : β} (h : Ev g a) (k : Ev (fun n => f n a) r) : Ev (fun n => (g n).bind (f n)) r := Ev.bind h k
theorem ev_bindc {α β : Type} {x : Option α} {f : Nat → α → Option β} {a : α} {r : β} (h : x = some a) (k : Ev (fun n => f n a) r) : Ev (fun n => x.bind (f n)) r := by
 simpa only [h, Option.bind_some] using k
theorem ev_eq {α : Type} {g : Nat → Option α} {r r' : α} (h : Ev g r) (e : r = r') : Ev g r' := e ▸ h
theorem w64 {n : Int} (h0 : -9223372036854775808 ≤ n) (h1 : n ≤ 9223372036854775807) : wrap64 n = n := by unfold wrap64; omega
theorem rd_get {xs : List Int} {i : Nat} (h : i < xs.length) : rd xs (i : Int) = xs[i] := by
 unfold rd
 rw [Int.toNat_natCast, List.getD_eq_getElem?_getD, List.getElem?_eq_getElem h]
 rfl
theorem rd_nat (xs : List Int) (i : Nat) : rd xs (i : Int) = xs.getD i 0 := by
 unfold rd
 rw [Int.toNat_natCast]
end Go.Proofs.YtemhccjjcioodaaGreat.U
namespace Go.Proofs.YtemhccjjcioodaaGreat.U
open Go.RowKit Go.Proofs.YtemhccjjcioodaaGreatW.PrintWords
theorem R_form {α : Type} {d : Kd α} {e : TypeId} {w : World} {base : Nat} {ok : Nat → Prop} {v : Value} {xs : List α} (h : d.R e w base ok v xs) (hb : ∃ b, v.ownBlock = some b) : ∃ g cap, v = .slice (some ⟨g, 0, none⟩) xs.length cap ∧ base ≤ g := by
 obtain ⟨inner, h1, h2⟩ := Kd.R_own h
 obtain ⟨b, hb⟩ := hb
 rcases h2 with ⟨rfl, _⟩ | ⟨g, cap, cur, rfl, hg, _⟩
 ·simp [Value.ownBlock] at hb
 ·exact ⟨g, cap, rfl, hg⟩
theorem grown_set (w : World) (g j : Nat) (u : Value) : w.grownBy (w.setCell ⟨g, j, none⟩ u) (some g) :=
 ⟨rfl, rfl, rfl, by simp [World.setCell], fun k _ hk => Below.heap_setCell w ⟨g, j, none⟩ u k (fun e => hk (by rw [e]))⟩
def SLk {α : Type} (d : Kd α) (w : World) (v : Value) (xs : List α) : Prop := ∃ A c, v = .slice A xs.length c ∧ xs.length ≤ c ∧ d.C w A xs.length xs
abbrev SL (w : World) (v : Value) (xs : List Int) : Prop := SLk (Kd.int .i64) w v xs
theorem SLk.mk {α : Type} {d : Kd α} {w : World} {A : Option Addr} {c : Nat} {xs : List α} (h : d.C w A xs.length xs) (hc : xs.length ≤ c) : SLk d w (.slice A xs.length c) xs := ⟨A, c, rfl, hc, h⟩
theorem SLk.of_R {α : Type} {d : Kd α} {e : TypeId} {w : World} {base : Nat} {ok : Nat → Prop} {v : Value} {xs : List α} (h : d.R e w base ok v xs) : SLk d w v xs := by
 obtain ⟨A, c, rfl, h1, h2⟩ := Kd.R_reads h
 exact ⟨A, c, rfl, h1, h2⟩
theorem SLk.below {α : Type} {d : Kd α} {w w' : World} {v : Value} {xs : List α} (h : SLk d w v xs) (hb : Below w.heap.size w w') : SLk d w' v xs := by
 obtain ⟨A, c, rfl, h1, h2⟩ := h
 exact ⟨A, c, rfl, h1, Kd.C_below h2 hb⟩
theorem SLk.nil {α : Type} {d : Kd α} (w : World) : SLk d w (.slice none 0 0) ([] : List α) := by
 refine ⟨none, 0, rfl, Nat.le_refl _, ?_⟩
 exact ⟨rfl, by simp, fun h => absurd h (by simp)⟩
theorem SLk.at_int {k : IntKind} {w : World} {v : Value} {xs : List Int} (h : SLk (Kd.int k) w v xs) (i : Int) (h0 : 0 ≤ i) (h1 : i < xs.length) : ∃ ad c, v = .slice (some ad) xs.length c ∧ w.cell? (ad.add i.toNat) = some (.int k (rd xs i)) := by
 obtain ⟨A, c, rfl, _, h2⟩ := h
 obtain ⟨ad, rfl, h⟩ := Kd.at_int h2 i h0 h1
 exact ⟨ad, c, rfl, h⟩
end Go.Proofs.YtemhccjjcioodaaGreat.U
namespace Go.Proofs.YtemhccjjcioodaaGreat.U
open Go.RowKit Go.Proofs.YtemhccjjcioodaaGreatW.PrintWords
abbrev Hd := Option Addr × Nat × Nat
def encH (h : Hd) : Value := .slice h.1 h.2.1 h.2.2
def KH : Kd Hd := Kd.scalar encH (fun _ => rfl)
def RS (e : TypeId) (w : World) (base : Nat) (v : Value) (xss : List (List Int)) : Prop :=
 ∃ hs : List Hd, Kd.R KH e w base (fun _ => True) v hs ∧ hs.length = xss.length ∧ ∀ (i : Nat) (x : List Int), xss[i]? = some x → ∃ h : Hd, hs[i]? = some h ∧ SL w (encH h) x
theorem SL.header {w : World} {v : Value} {xs : List Int} (h : SL w v xs) : ∃ hd : Hd, v = encH hd := by
 obtain ⟨A, c, rfl, _⟩ := h
 exact ⟨(A, xs.length, c), rfl⟩
theorem SL.set_slice {w : World} {v : Value} {xs : List Int} (h : SL w v xs) {g i : Nat} {hd : Hd} (hc : w.cell? ⟨g, i, none⟩ = some (encH hd)) (u : Value) : SL (w.setCell ⟨g, i, none⟩ u) v xs := by
 obtain ⟨A, c, rfl, hl, h1, h2, h3⟩ := h
 refine ⟨A, c, rfl, hl, h1, h2, fun hn => ?_⟩
 obtain ⟨ad, rfl, hcell⟩ := h3 hn
 refine ⟨ad, rfl, fun j p hj => ?_⟩
 obtain ⟨cs, hcl, hk, hcc⟩ := hcell j p hj
 refine ⟨cs, hcl, hk, fun k u' hu => ?_⟩
 have hold := hcc k u' hu
 have hne : ad.add (j * (Kd.int .i64).sz + k) ≠ ⟨g, i, none⟩ := by
  intro e
  rw [e, hc] at hold
  have hk' : cs = [.int .i64 p] := hk
  subst hk'
  cases k with
  | zero => simp at hu; subst hu; simp [encH] at hold
  | succ k => simp at hu
 have hlt := World.block_lt_of_cell? w _ hold
 rw [← hold]
 unfold World.cell? World.setCell
 simp only [Array.getElem?_modify]
 by_cases hb : g = (ad.add (j * (Kd.int .i64).sz + k)).block
 ·rw [if_pos hb]
  generalize hg : w.heap[(ad.add (j * (Kd.int .i64).sz + k)).block]? = o
  cases o with
  | none => rfl
  | some o =>
   cases o with
   | cells c t f =>
    simp only [Option.map_some]
    by_cases hsp : (ad.add (j * (Kd.int .i64).sz + k)).spot.isSome
    ·simp [hsp]
    ·simp only [hsp]
     simp
     rw [Array.getElem?_setIfInBounds_ne]
     intro ei
     apply hne
     generalize ad.add (j * (Kd.int .i64).sz + k) = q at *
     obtain ⟨qb, qo, qs⟩ := q
     simp at hb ei hsp
     subst hb ei hsp
     rfl
   | _ => rfl
 ·rw [if_neg hb]
theorem RS.cell {e : TypeId} {w : World} {base g n cap : Nat} {xss : List (List Int)} (h : RS e w base (.slice (some ⟨g, 0, none⟩) n cap) xss) (i : Nat) (hi : i < n) : (∃ hd : Hd, w.cell? ⟨g, i, none⟩ = some (encH hd)) ∧ w.frozen? ⟨g, i, none⟩ = false := by
 obtain ⟨hs, h1, h2, h3⟩ := h
 have hc := Kd.R_celln ((none, 0, 0) : Hd) h1 (i : Int) (by omega) (by omega)
 rw [Int.toNat_natCast] at hc
 exact ⟨⟨_, hc.1⟩, hc.2⟩
theorem RS.slice {e : TypeId} {w : World} {base : Nat} {v : Value} {xss : List (List Int)} (h : RS e w base v xss) : ∃ A c, v = .slice A xss.length c := by
 obtain ⟨hs, h1, h2, h3⟩ := h
 obtain ⟨A, c, rfl⟩ := Kd.R_slice h1
 exact ⟨A, c, by rw [h2]⟩
end Go.Proofs.YtemhccjjcioodaaGreat.U
namespace Go.Proofs.YtemhccjjcioodaaGreat.U
open Go
abbrev CallF := FuncId → Array Value → World → Option (Value × World)
def runList (P : Program) (call : CallF) (ops : Array Oper) : List Oper → Act → World → Option (Act × World)
 | [], a, w => some (a, w)
 | o :: rest, a, w =>
  if Region.wanted o (yielded ops a.tmps) then
   match (execOp a.eval o).run P w with
   | .ok (.value v) w' => runList P call ops rest (a.put o.dst v) w'
   | .ok .skip w' => runList P call ops rest (a.put o.dst undef) w'
   | .ok (.enter f args) w' => match call f args w' with
    | some (v, w2) => runList P call ops rest (a.put o.dst v) w2
    | none => none
   | _ => none
  else runList P call ops rest (a.put o.dst undef) w
def CallOk (P : Program) (call : CallF) : Prop := ∀ f args w v w', call f args w = some (v, w') → Calls P f args w fun e W => e = .returned v ∧ W = w'
theorem wpList_runList {P : Program} {call : CallF} (hcall : CallOk P call) {ops : Array Oper} {Q : Exit → Act → World → Prop} (l : List Oper) : ∀ (a a' : Act) (w w' : World), runList P call ops l a w = some (a', w') → Q .normal a' w' → wpList P ops Q l a w := by
 induction l with
 | nil =>
  intro a a' w w' h hq
  obtain ⟨rfl, rfl⟩ := Prod.mk.inj (Option.some.inj h)
  exact hq
 | cons o rest ih =>
  intro a a' w w' h hq
  unfold runList at h
  unfold wpList
  by_cases hw : Region.wanted o (yielded ops a.tmps) = true
  ·rw [if_pos hw] at h ⊢
   left
   unfold Oper.wp
   cases hr : (execOp a.eval o).run P w with
   | halt x y => rw [hr] at h; cases h
   | ok n w1 =>
    rw [hr] at h
    cases n with
    | value v => exact ih _ _ _ _ h hq
    | skip => exact ih _ _ _ _ h hq
    | enter f args =>
     dsimp only at h
     cases hc : call f args w1 with
     | none => rw [hc] at h; cases h
     | some p =>
      rw [hc] at h
      rw [Oper.upon_enter]
      refine (hcall _ _ _ _ _ hc).mono ?_
      rintro e W ⟨rfl, rfl⟩
      exact ih _ _ _ _ h hq
    | _ => cases h
  ·rw [if_neg hw] at h ⊢
   exact ih _ _ _ _ h hq
def loopRun (f : Act → World → Option (Exit × Act × World)) : Nat → Act → World → Option (Exit × Act × World)
 | 0, _, _ => none
 | m + 1, a, w => match f a w with
  | some (.normal, a1, w1) => loopRun f m a1 w1
  | r => r
def runC (P : Program) (call : CallF) : Nat → Code → Act → World → Option (Exit × Act × World)
 | 0, _, _, _ => none
 | n + 1, c, a, w =>
  match c with
  | .skip => some (.normal, a, w)
  | .label _ => some (.normal, a, w)
  | .exit id => some (.exit id, a, w)
  | .ret => some (.ret, a, w)
  | .region _ ops false => (runList P call ops ops.toList a w).map fun p => (.normal, p.1, p.2)
  | .seq x y => match runC P call n x a w with
   | some (.normal, a1, w1) => runC P call n y a1 w1
   | r => r
  | .cond c x y => match a.eval c with
   | .bool true => runC P call n x a w
   | .bool false => runC P call n y a w
   | _ => none
  | .block id x => match runC P call n x a w with
   | some (.exit j, a1, w1) => if j = id then some (.normal, a1, w1) else some (.exit j, a1, w1)
   | r => r
  | .loop x => loopRun (runC P call n x) n a w
  | _ => none
def CodeOk (P : Program) (f : Act → World → Option (Exit × Act × World)) (c : Code) : Prop := ∀ (a a' : Act) (w w' : World) (e : Exit) (Q : Exit → Act → World → Prop), f a w = some (e, a', w') → Q e a' w' → c.wp P Q a w
theorem loopRun_ok {P : Program} {f : Act → World → Option (Exit × Act × World)} {c : Code} (hf : CodeOk P f c) (m : Nat) : ∀ (a a' : Act) (w w' : World) (e : Exit) (Q : Exit → Act → World → Prop), loopRun f m a w = some (e, a', w') → Q e a' w' → e ≠ .normal → Code.rounds P c Q m a w := by
 induction m with
 | zero => intro a a' w w' e Q h; cases h
 | succ m ih =>
  intro a a' w w' e Q h hq hne
  rw [rounds_succ]
  unfold loopRun at h
  cases hr : f a w with
  | none => rw [hr] at h; cases h
  | some r =>
   obtain ⟨e1, a1, w1⟩ := r
   rw [hr] at h
   refine hf _ _ _ _ _ _ hr ?_
   cases e1 with
   | normal => exact ih _ _ _ _ _ _ h hq hne
   | _ => obtain ⟨rfl, rfl, rfl⟩ := h; exact hq
theorem loopRun_ne {f : Act → World → Option (Exit × Act × World)} (m : Nat) : ∀ (a a' : Act) (w w' : World) (e : Exit), loopRun f m a w = some (e, a', w') → e ≠ .normal := by
 induction m with
 | zero => intro a a' w w' e h; cases h
 | succ m ih =>
  intro a a' w w' e h
  unfold loopRun at h
  cases hr : f a w with
  | none => rw [hr] at h; cases h
  | some r =>
   obtain ⟨e1, a1, w1⟩ := r
   rw [hr] at h
   cases e1 with
   | normal => exact ih _ _ _ _ _ h
   | _ => obtain ⟨rfl, rfl, rfl⟩ := h; simp
theorem runC_ok {P : Program} {call : CallF} (hcall : CallOk P call) (n : Nat) : ∀ c, CodeOk P (runC P call n c) c := by
 induction n with
 | zero => intro c a a' w w' e Q h; cases h
 | succ n ih =>
  intro c a a' w w' e Q h hq
  cases c with
  | skip => obtain ⟨rfl, rfl, rfl⟩ := h; exact wp_skip hq
  | label l => obtain ⟨rfl, rfl, rfl⟩ := h; exact wp_label hq
  | exit id => obtain ⟨rfl, rfl, rfl⟩ := h; exact wp_exit hq
  | ret => obtain ⟨rfl, rfl, rfl⟩ := h; exact wp_ret hq
  | region id ops draw =>
   cases draw with
   | true => cases h
   | false =>
    obtain ⟨⟨a1, w1⟩, h1, h2⟩ := Option.map_eq_some_iff.1 h
    obtain ⟨rfl, rfl, rfl⟩ := h2
    exact wp_region_list (wpList_runList hcall _ _ _ _ _ h1 hq)
  | seq x y =>
   unfold runC at h
   dsimp only at h
   cases hr : runC P call n x a w with
   | none => rw [hr] at h; cases h
   | some r =>
    obtain ⟨e1, a1, w1⟩ := r
    rw [hr] at h
    refine wp_seq (ih x _ _ _ _ _ _ hr ?_)
    cases e1 with
    | normal => exact ih y _ _ _ _ _ _ h hq
    | _ => obtain ⟨rfl, rfl, rfl⟩ := h; exact hq
  | cond c x y =>
   unfold runC at h
   dsimp only at h
   cases hc : a.eval c with
   | bool b =>
    rw [hc] at h
    cases b with
    | true => exact wp_cond_true hc (ih x _ _ _ _ _ _ h hq)
    | false => exact wp_cond_false hc (ih y _ _ _ _ _ _ h hq)
   | _ => rw [hc] at h; cases h
  | block id x =>
   unfold runC at h
   dsimp only at h
   cases hr : runC P call n x a w with
   | none => rw [hr] at h; cases h
   | some r =>
    obtain ⟨e1, a1, w1⟩ := r
    rw [hr] at h
    refine wp_block (ih x _ _ _ _ _ _ hr ?_)
    cases e1 with
    | exit j =>
     dsimp only at h
     unfold Exit.inBlock
     dsimp only
     by_cases hj : j = id
     ·rw [if_pos hj] at h ⊢
      obtain ⟨rfl, rfl, rfl⟩ := h; exact hq
     ·rw [if_neg hj] at h ⊢
      obtain ⟨rfl, rfl, rfl⟩ := h; exact hq
    | _ => obtain ⟨rfl, rfl, rfl⟩ := h; exact hq
  | loop x =>
   unfold runC at h
   dsimp only at h
   exact wp_loop_rounds n (loopRun_ok (ih x) n _ _ _ _ _ _ h hq (loopRun_ne n _ _ _ _ _ h))
  | _ => cases h
def resOf (fn : Func) (tmps : Array Value) : Option Value :=
 match fn.results.toList with
 | [] => some (.tuple #[])
 | [.tmp t] => some (tmps.getD t undef)
 | [.tmp t, .tmp u] => some (.tuple #[tmps.getD t undef, tmps.getD u undef])
 | _ => none
theorem resOf_run {fn : Func} {tmps : Array Value} {v : Value} (h : resOf fn tmps = some v) (P : Program) (w : World) : (results fn tmps).run P w = .ok v w := by
 unfold resOf at h
 split at h
 ·rename_i e; obtain rfl := Option.some.inj h; exact results_none (by rw [← Array.toArray_toList (xs := fn.results), e]) _ _ _
 ·rename_i e; obtain rfl := Option.some.inj h; exact results_tmp (by rw [← Array.toArray_toList (xs := fn.results), e]) _ _ _
 ·rename_i e; obtain rfl := Option.some.inj h; exact results_tmp2 (by rw [← Array.toArray_toList (xs := fn.results), e]) _ _ _
 ·cases h
def runF (P : Program) (n : Nat) : Nat → CallF
 | 0, _, _, _ => none
 | d + 1, f, args, w =>
  match P.funcs[f]? with
  | none => none
  | some fn => match fn.body with
   | none => none
   | some c => match runC P (runF P n d) n c { tmps := args ++ Array.replicate (fn.ntmps - args.size) undef, defers := [] } w with
    | some (.ret, a, w') => if a.defers.length = 0 then (resOf fn a.tmps).map fun v => (v, w') else none
    | some (.normal, a, w') => if a.defers.length = 0 then (resOf fn a.tmps).map fun v => (v, w') else none
    | _ => none
theorem runF_ok {P : Program} (n d : Nat) : CallOk P (runF P n d) := by
 induction d with
 | zero => intro f args w v w' h; cases h
 | succ d ih =>
  intro f args w v w' h
  unfold runF at h
  cases hf : P.funcs[f]? with
  | none => rw [hf] at h; cases h
  | some fn =>
   rw [hf] at h
   dsimp only at h
   cases hb : fn.body with
   | none => rw [hb] at h; cases h
   | some c =>
    rw [hb] at h
    dsimp only at h
    refine calls_of_wp hf hb ?_
    cases hr : runC P (runF P n d) n c { tmps := args ++ Array.replicate (fn.ntmps - args.size) undef, defers := [] } w with
    | none => rw [hr] at h; cases h
    | some r =>
     obtain ⟨e, a, w1⟩ := r
     rw [hr] at h
     refine runC_ok ih n c _ _ _ _ _ _ hr ?_
     cases e with
     | ret =>
      dsimp only at h
      split at h
      ·rename_i hd
       obtain ⟨v', h1, h2⟩ := Option.map_eq_some_iff.1 h
       obtain ⟨rfl, rfl⟩ := Prod.mk.inj h2
       exact ⟨List.eq_nil_of_length_eq_zero hd, _, resOf_run h1 _ _, rfl, rfl⟩
      ·cases h
     | normal =>
      dsimp only at h
      split at h
      ·rename_i hd
       obtain ⟨v', h1, h2⟩ := Option.map_eq_some_iff.1 h
       obtain ⟨rfl, rfl⟩ := Prod.mk.inj h2
       exact ⟨List.eq_nil_of_length_eq_zero hd, _, resOf_run h1 _ _, rfl, rfl⟩
      ·cases h
     | _ => cases h
end Go.Proofs.YtemhccjjcioodaaGreat.U
end
section
namespace Go.Proofs.YtemhccjjcioodaaGreat.UFinEv
open Go.RowKit Go.Proofs.YtemhccjjcioodaaGreatW.PrintWords Go.Proofs.YtemhccjjcioodaaGreat.U Go.Proofs.YtemhccjjcioodaaGreat.PClusterFinest Go.Proofs.YtemhccjjcioodaaGreat.UFinest
def lkOf (x : S45) : Lk := ⟨x.f0.f0.toNat, x.f0.f1.toNat, x.f1.f0.toNat, x.f1.f1.toNat⟩
theorem rd45 {l : List S45} {i : Nat} (h : i < l.length) : rd_T45 l (i : Int) = l[i] := by
 unfold rd_T45
 rw [Int.toNat_natCast, List.getD_eq_getElem?_getD, List.getElem?_eq_getElem h]
 rfl
theorem wholeTo_out (L : Lab) (lo len : Nat) (x : Nat) (hx : x < lo ∨ lo + len ≤ x) (k : Nat) (hk : k ≤ len) : (wholeTo L lo len k).1 x = L x := by
 induction k with
 | zero => rfl
 | succ k ih =>
  have ih' := ih (by omega)
  unfold wholeTo
  dsimp only
  generalize wholeTo L lo len k = q at ih' ⊢
  have hs : (hullL q.1 lo (q.1 (lo + k)) len).2 ≤ len := by
   rcases hullL_is q.1 lo (q.1 (lo + k)) len with ⟨e, _⟩ | ⟨_, g, _⟩
   ·rw [e]; exact Nat.zero_le _
   ·exact g
  generalize hullL q.1 lo (q.1 (lo + k)) len = s at hs
  unfold setL
  by_cases hc : lo + s.1 ≤ x ∧ x < lo + s.1 + (s.2 - s.1)
  ·omega
  ·rw [if_neg hc]; exact ih'
end Go.Proofs.YtemhccjjcioodaaGreat.UFinEv
namespace Go.Proofs.YtemhccjjcioodaaGreat.UFinEv
open Go.RowKit Go.Proofs.YtemhccjjcioodaaGreatW.PrintWords Go.Proofs.YtemhccjjcioodaaGreat.U Go.Proofs.YtemhccjjcioodaaGreat.PClusterFinest Go.Proofs.YtemhccjjcioodaaGreat.UFinest
def RepB (P : Nat → Bool) (l : List Bool) : Prop := ∀ i, i < l.length → l.getD i false = P i
theorem repB_set {P : Nat → Bool} {l : List Bool} (h : RepB P l) (i : Nat) (hi : i < l.length) : RepB (fun j => P j || decide (j = i)) (l.set i true) := by
 intro j hj
 rw [List.length_set] at hj
 by_cases hji : j = i
 ·subst hji
  rw [List.getD_eq_getElem?_getD, List.getElem?_set_self (by omega)]
  simp
 ·rw [List.getD_eq_getElem?_getD, List.getElem?_set_ne (Ne.symm hji), ← List.getD_eq_getElem?_getD, h j hj]
  simp [hji]
theorem rdB (l : List Bool) (i : Nat) : rdOf false l (i : Int) = l.getD i false := by
 unfold rdOf
 rw [Int.toNat_natCast]
structure LinkOk (n m : Nat) (x : S45) : Prop where
 a0 : 0 ≤ x.f0.f0
 ab : x.f0.f0 < x.f0.f1
 bn : x.f0.f1 ≤ n
 c0 : 0 ≤ x.f1.f0
 cd : x.f1.f0 < x.f1.f1
 dm : x.f1.f1 ≤ m
end Go.Proofs.YtemhccjjcioodaaGreat.UFinEv
namespace Go.Proofs.YtemhccjjcioodaaGreat.UFinEv
open Go.RowKit Go.Proofs.YtemhccjjcioodaaGreatW.PrintWords Go.Proofs.YtemhccjjcioodaaGreat.U Go.Proofs.YtemhccjjcioodaaGreat.PClusterFinest Go.Proofs.YtemhccjjcioodaaGreat.UFinest
def fitB (lo hi n : Int) : Bool := decide (0 ≤ lo) && decide (lo < hi) && decide (hi ≤ n)
def okB (n m : Int) (x : S45) : Bool := fitB x.f0.f0 x.f0.f1 n && fitB x.f1.f0 x.f1.f1 m
def outB (l : List S45) (k : Nat) : Bool := l.any fun x => decide (x.f1.f0 ≤ k) && decide ((k : Int) < x.f1.f1)
def wrongIn (n m : Int) (l : List S45) : Int := if m = 0 ∧ n > 0 then 8 else if n = 0 ∧ m > 0 then 13 else if (List.range m.toNat).all (outB l) then 0 else 13
def wrongR (n m : Int) (l : List S45) : Int := if n < 0 ∨ n > 16777216 ∨ m < 0 ∨ m > 16777216 then 1 else if l.all (okB n m) then wrongIn n m l else 1
end Go.Proofs.YtemhccjjcioodaaGreat.UFinEv
namespace Go.Proofs.YtemhccjjcioodaaGreat.UFinest
structure LabOk (N : Nat) (r : Lab) : Prop where
 le : ∀ i, i < N → r i ≤ i
 rr : ∀ i, i < N → r (r i) = r i
def PF (N : Nat) (r : Lab) (p : List Int) : Prop := ∀ i, i < N → ∃ q : Nat, p.getD i 0 = (q : Int) ∧ q ≤ i ∧ r q = r i ∧ (q = i → r i = i)
theorem getD_set_self (p : List Int) (i : Nat) (x : Int) (h : i < p.length) : (p.set i x).getD i 0 = x := by
 rw [List.getD_eq_getElem?_getD, List.getElem?_set_self h]; rfl
theorem getD_set_ne (p : List Int) (i j : Nat) (x : Int) (h : j ≠ i) : (p.set i x).getD j 0 = p.getD j 0 := by
 rw [List.getD_eq_getElem?_getD, List.getElem?_set_ne (Ne.symm h), ← List.getD_eq_getElem?_getD]
theorem PF.half {N : Nat} {r : Lab} {p : List Int} (h : PF N r p) (hl : p.length = N) {i q q2 : Nat} (hi : i < N) (h1 : p.getD i 0 = (q : Int)) (h2 : p.getD q 0 = (q2 : Int)) : PF N r (p.set i (q2 : Int)) := by
 intro j hj
 by_cases e : j = i
 ·subst e
  obtain ⟨a, a1, a2, a3, a4⟩ := h j hi
  have ea : a = q := by omega
  subst ea
  obtain ⟨b, b1, b2, b3, b4⟩ := h a (by omega)
  have eb : b = q2 := by omega
  subst eb
  exact ⟨b, getD_set_self p j _ (by omega), by omega, b3.trans a3, fun e => a4 (by omega)⟩
 ·obtain ⟨a, a1, a2, a3, a4⟩ := h j hj
  exact ⟨a, (getD_set_ne p i j _ e).trans a1, a2, a3, a4⟩
theorem LabOk.merge {N : Nat} {r : Lab} (h : LabOk N r) (a b : Nat) (ha : a < N) (hb : b < N) : LabOk N (merge r a b) := by
 have h1 := h.le a ha
 have h2 := h.le b hb
 have h3 := h.rr a ha
 have h4 := h.rr b hb
 refine ⟨fun i hi => Nat.le_trans (merge_le _ _ _ _) (h.le i hi), fun i hi => ?_⟩
 have h5 := h.rr i hi
 unfold UFinest.merge
 by_cases e : r i = max (r a) (r b)
 ·rw [if_pos e]
  rcases Nat.le_total (r a) (r b) with hab | hab
  ·rw [Nat.min_eq_left hab, Nat.max_eq_right hab, h3]; split <;> omega
  ·rw [Nat.min_eq_right hab, Nat.max_eq_left hab, h4]; split <;> omega
 ·rw [if_neg e, h5, if_neg e]
theorem PF.join {N : Nat} {r : Lab} {p : List Int} (h : PF N r p) (ho : LabOk N r) (hl : p.length = N) (a b : Nat) (ha : a < N) (hb : b < N) (hne : r a ≠ r b) : PF N (merge r a b) (p.set (max (r a) (r b)) ((min (r a) (r b) : Nat) : Int)) := by
 have h1 := ho.le a ha
 have h2 := ho.le b hb
 have h3 := ho.rr a ha
 have h4 := ho.rr b hb
 have hM : r (max (r a) (r b)) = max (r a) (r b) := by
  rcases Nat.le_total (r a) (r b) with hab | hab
  ·rw [Nat.max_eq_right hab]; exact h4
  ·rw [Nat.max_eq_left hab]; exact h3
 have hm : r (min (r a) (r b)) = min (r a) (r b) := by
  rcases Nat.le_total (r a) (r b) with hab | hab
  ·rw [Nat.min_eq_left hab]; exact h3
  ·rw [Nat.min_eq_right hab]; exact h4
 intro j hj
 by_cases e : j = max (r a) (r b)
 ·refine ⟨min (r a) (r b), ?_, by omega, ?_, fun h => by omega⟩
  ·rw [e]; exact getD_set_self p _ _ (by omega)
  ·rw [e]
   unfold UFinest.merge
   rw [hm, hM, if_pos rfl, if_neg (by omega)]
 ·obtain ⟨q, q1, q2, q3, q4⟩ := h j hj
  refine ⟨q, (getD_set_ne p _ _ _ e).trans q1, q2, merge_keep r a b q j q3, fun eq => ?_⟩
  have := q4 eq
  unfold UFinest.merge
  rw [this, if_neg e]
theorem PF.root {N : Nat} {r : Lab} {p : List Int} (h : PF N r p) {i : Nat} (hi : i < N) (he : p.getD i 0 = (i : Int)) : r i = i := by
 obtain ⟨q, q1, q2, q3, q4⟩ := h i hi
 exact q4 (by omega)
theorem PF.up {N : Nat} {r : Lab} {p : List Int} (h : PF N r p) {i : Nat} (hi : i < N) (he : p.getD i 0 ≠ (i : Int)) : ∃ q : Nat, p.getD i 0 = (q : Int) ∧ q < i ∧ r q = r i := by
 obtain ⟨q, q1, q2, q3, q4⟩ := h i hi
 exact ⟨q, q1, by rcases Nat.lt_or_ge q i with h | h; exact h; exact absurd (by rw [q1]; omega) he, q3⟩
theorem labOk_id (N : Nat) : LabOk N idL := ⟨fun _ _ => Nat.le_refl _, fun _ _ => rfl⟩
theorem PF.id {N : Nat} {p : List Int} (h : ∀ i, i < N → p.getD i 0 = (i : Int)) : PF N idL p := fun i hi => ⟨i, h i hi, Nat.le_refl _, rfl, fun _ => rfl⟩
theorem two_false {r : Lab} {a b : Nat} (h : r a = r b) : two r a b = false := by unfold two; rw [decide_eq_false_iff_not]; exact fun h' => h' h
theorem two_true {r : Lab} {a b : Nat} (h : r a ≠ r b) : two r a b = true := by unfold two; exact decide_eq_true h
end Go.Proofs.YtemhccjjcioodaaGreat.UFinest
namespace Go.Proofs.YtemhccjjcioodaaGreat.UFinest
structure FinOk (n m : Nat) (l : List Lk) (L : Lab) : Prop where
 sound : ∀ R, Closed n m l R → Sound R L
 closed : Closed n m l (fun x y => L x = L y)
abbrev Clu := (Nat × Nat) × (Nat × Nat)
def cluTo (n m : Nat) (L : Lab) (k : Nat) : List Clu := (List.range k).filterMap fun i => if i = 0 ∨ L i ≠ L (i - 1) then some (hullL L 0 (L i) n, hullL L n (L i) m) else none
theorem cluTo_add (n m : Nat) (L : Lab) (k : Nat) : cluTo n m L (k + 1) = cluTo n m L k ++ (if k = 0 ∨ L k ≠ L (k - 1) then [(hullL L 0 (L k) n, hullL L n (L k) m)] else []) := by
 unfold cluTo
 rw [List.range_succ, List.filterMap_append]
 by_cases h : k = 0 ∨ L k ≠ L (k - 1)
 ·rw [if_pos h]; simp [List.filterMap_cons, h]
 ·rw [if_neg h]; simp [List.filterMap_cons, h]
end Go.Proofs.YtemhccjjcioodaaGreat.UFinest
namespace Go.Proofs.YtemhccjjcioodaaGreat.UFinest
def firsts (r : Lab) : Nat → List Nat
 | 0 => []
 | k + 1 => if r k ∈ firsts r k then firsts r k else firsts r k ++ [r k]
theorem mem_firsts (r : Lab) (k v : Nat) : v ∈ firsts r k ↔ ∃ i, i < k ∧ r i = v := by
 induction k with
 | zero => simp [firsts]
 | succ k ih =>
  unfold firsts
  by_cases h : r k ∈ firsts r k
  ·rw [if_pos h, ih]
   constructor
   ·rintro ⟨i, hi, e⟩; exact ⟨i, by omega, e⟩
   ·rintro ⟨i, hi, e⟩
    rcases Nat.lt_or_ge i k with h' | h'
    ·exact ⟨i, h', e⟩
    ·obtain rfl : i = k := by omega
     exact ih.1 (e ▸ h)
  ·rw [if_neg h, List.mem_append, ih, List.mem_singleton]
   constructor
   ·rintro (⟨i, hi, e⟩ | e)
    ·exact ⟨i, by omega, e⟩
    ·exact ⟨k, by omega, e.symm⟩
   ·rintro ⟨i, hi, e⟩
    rcases Nat.lt_or_ge i k with h' | h'
    ·exact .inl ⟨i, h', e⟩
    ·obtain rfl : i = k := by omega
     exact .inr e.symm
theorem firsts_nodup (r : Lab) (k : Nat) : (firsts r k).Nodup := by
 induction k with
 | zero => exact List.nodup_nil
 | succ k ih =>
  unfold firsts
  split
  ·exact ih
  ·rename_i h
   rw [List.nodup_append]
   exact ⟨ih, by simp, fun a ha b hb e => h (by rw [List.mem_singleton] at hb; rw [← hb, ← e]; exact ha)⟩
theorem firsts_len (r : Lab) (k : Nat) : (firsts r k).length ≤ k := by
 induction k with
 | zero => exact Nat.le_refl _
 | succ k ih =>
  unfold firsts
  split
  ·omega
  ·simp; exact ih
theorem map_set_idx {β : Type} (l : List Nat) (hn : l.Nodup) (v : Nat) (hv : v ∈ l) (f f' : Nat → β) (h : ∀ x ∈ l, x ≠ v → f' x = f x) : l.map f' = (l.map f).set (l.idxOf v) (f' v) := by
 apply List.ext_getElem (by simp)
 intro i h1 h2
 have hi : i < l.length := by simpa using h1
 rw [List.getElem_set]
 by_cases e : l.idxOf v = i
 ·rw [if_pos e]
  subst e
  rw [List.getElem_map, List.getElem_idxOf]
 ·rw [if_neg e, List.getElem_map, List.getElem_map]
  refine h _ (List.getElem_mem hi) fun e' => e ?_
  rw [← e']
  exact hn.idxOf_getElem i hi
def clu1 (r : Lab) (m k : Nat) (v : Nat) : Clu := (hullL r 0 v k, (m, 0))
def out2 (r : Lab) (n m : Nat) (v t : Nat) : Nat × Nat := if (hullL r n v t).2 = 0 then (m, 0) else hullL r n v t
def clu2 (r : Lab) (n m t : Nat) (v : Nat) : Clu := (hullL r 0 v n, out2 r n m v t)
theorem hull_far {r : Lab} {lo v k : Nat} (h : r (lo + k) ≠ v) : hullL r lo v (k + 1) = hullL r lo v k := by
 show (if r (lo + k) = v then _ else _) = _
 rw [if_neg h]
theorem hull_met {r : Lab} {k v : Nat} (h : v ∈ firsts r k) : (hullL r 0 v k).1 < (hullL r 0 v k).2 := by
 obtain ⟨i, hi, e⟩ := (mem_firsts r k v).1 h
 rcases hullL_is r 0 v k with ⟨h1, h2⟩ | h2
 ·exact absurd (by rw [Nat.zero_add]; exact e) (h2 i hi)
 ·exact h2.1
theorem clu1_there {r : Lab} {m k : Nat} (h : r k ∈ firsts r k) : (firsts r (k + 1)).map (clu1 r m (k + 1)) = ((firsts r k).map (clu1 r m k)).set ((firsts r k).idxOf (r k)) (((hullL r 0 (r k) k).1, k + 1), (m, 0)) := by
 have e : firsts r (k + 1) = firsts r k := by rw [firsts, if_pos h]
 rw [e, map_set_idx _ (firsts_nodup r k) _ h (clu1 r m k) (clu1 r m (k + 1))]
 ·congr 1
  unfold clu1
  have hm := hull_met h
  show ((if r (0 + k) = r k then _ else _), (m, 0)) = _
  rw [Nat.zero_add, if_pos rfl, if_neg (by omega)]
 ·intro x hx hne
  unfold clu1
  rw [hull_far (by rw [Nat.zero_add]; exact fun e => hne e.symm)]
theorem clu1_new {r : Lab} {m k : Nat} (h : r k ∉ firsts r k) : (firsts r (k + 1)).map (clu1 r m (k + 1)) = (firsts r k).map (clu1 r m k) ++ [((k, k + 1), (m, 0))] := by
 have e : firsts r (k + 1) = firsts r k ++ [r k] := by rw [firsts, if_neg h]
 rw [e, List.map_append]
 congr 1
 ·apply List.map_congr_left
  intro x hx
  unfold clu1
  rw [hull_far (by rw [Nat.zero_add]; exact fun e => h (e ▸ hx))]
 ·unfold clu1
  have h0 : hullL r 0 (r k) k = (0, 0) := by
   rcases hullL_is r 0 (r k) k with ⟨h1, _⟩ | h2
   ·exact h1
   ·exact absurd ((mem_firsts r k _).2 ⟨(hullL r 0 (r k) k).1, by omega, by have := h2.2.2.1; rwa [Nat.zero_add] at this⟩) h
  rw [List.map_singleton]
  show [((if r (0 + k) = r k then _ else _), (m, 0))] = _
  rw [Nat.zero_add, if_pos rfl, h0, if_pos rfl]
theorem clu2_start (r : Lab) (n m : Nat) : (firsts r n).map (clu1 r m n) = (firsts r n).map (clu2 r n m 0) := List.map_congr_left fun v _ => by
 unfold clu1 clu2 out2
 rw [if_pos (by rfl)]
theorem clu2_step {r : Lab} {n m t : Nat} (ht : t < m) (h : r (n + t) ∈ firsts r n) : (firsts r n).map (clu2 r n m (t + 1)) = ((firsts r n).map (clu2 r n m t)).set ((firsts r n).idxOf (r (n + t))) (hullL r 0 (r (n + t)) n, (min (out2 r n m (r (n + t)) t).1 t, t + 1)) := by
 rw [map_set_idx _ (firsts_nodup r n) _ h (clu2 r n m t) (clu2 r n m (t + 1))]
 ·congr 1
  unfold clu2 out2
  have e : hullL r n (r (n + t)) (t + 1) = ((if (hullL r n (r (n + t)) t).2 = 0 then t else (hullL r n (r (n + t)) t).1), t + 1) := by
   show (if r (n + t) = r (n + t) then _ else _) = _
   rw [if_pos rfl]
  rw [e, if_neg (by simp)]
  congr 1
  congr 1
  by_cases hz : (hullL r n (r (n + t)) t).2 = 0
  ·rw [if_pos hz, if_pos hz]; dsimp only; omega
  ·rw [if_neg hz, if_neg hz]
   rcases hullL_is r n (r (n + t)) t with ⟨h1, _⟩ | h2
   ·rw [h1] at hz; exact absurd rfl hz
   ·omega
 ·intro x hx hne
  unfold clu2 out2
  rw [hull_far (fun e => hne e.symm)]
theorem firsts_cut {r : Lab} {n : Nat} (hb : Between (fun x y => r x = r y) 0 n) (k : Nat) (hk : k < n) : r k ∈ firsts r k ↔ ¬ (k = 0 ∨ r k ≠ r (k - 1)) := by
 rw [mem_firsts]
 constructor
 ·rintro ⟨i, hi, e⟩ (h | h)
  ·omega
  ·exact h (e.symm.trans (hb i (k - 1) k (Nat.zero_le _) (by omega) (by omega) hk e))
 ·intro h
  exact ⟨k - 1, by omega, (Decidable.byContradiction fun e => h (.inr (fun e' => e e'.symm)))⟩
theorem cluTo_firsts {r : Lab} {n m : Nat} (hb : Between (fun x y => r x = r y) 0 n) (k : Nat) (hk : k ≤ n) : cluTo n m r k = (firsts r k).map fun v => (hullL r 0 v n, hullL r n v m) := by
 induction k with
 | zero => rfl
 | succ k ih =>
  rw [cluTo_add, ih (by omega), firsts]
  have hc := firsts_cut hb k (by omega)
  by_cases h : k = 0 ∨ r k ≠ r (k - 1)
  ·rw [if_pos h, if_neg (fun h' => hc.1 h' h), List.map_append]; rfl
  ·rw [if_neg h, if_pos (hc.2 h), List.append_nil]
theorem clu2_end {r : Lab} {n m : Nat} (hb : Between (fun x y => r x = r y) 0 n) (ho : ∀ j, j < n → ∃ i, i < m ∧ r (n + i) = r j) : (firsts r n).map (clu2 r n m m) = cluTo n m r n := by
 rw [cluTo_firsts hb n (Nat.le_refl _)]
 apply List.map_congr_left
 intro v hv
 obtain ⟨j, hj, e⟩ := (mem_firsts r n v).1 hv
 obtain ⟨i, hi, e2⟩ := ho j hj
 unfold clu2 out2
 rw [if_neg]
 rcases hullL_is r n v m with ⟨_, h2⟩ | h2
 ·exact absurd (e2.trans e) (h2 i hi)
 ·omega
theorem outs_met {n m : Nat} {l : List Lk} {R : Nat → Nat → Prop} (hR : Closed n m l R) (hw : ∀ x ∈ l, x.a < x.b ∧ x.c < x.d) (hm : ∀ x ∈ l, x.d ≤ m) (hf : firstF l n < n) (j : Nat) (hj : j < n) : ∃ i, i < m ∧ R (n + i) j := by
 have linked : ∀ j, linkedB l j = true → ∃ i, i < m ∧ R (n + i) j := by
  intro j h
  unfold linkedB at h
  obtain ⟨x, hx, h⟩ := List.any_eq_true.1 h
  simp only [Bool.and_eq_true, decide_eq_true_eq] at h
  have := hw x hx; have := hm x hx
  exact ⟨x.c, by omega, hR.eqv.trans _ _ _ (hR.eqv.symm _ _ (hR.both x hx)) (hR.ins x hx j h.1 h.2)⟩
 have hfirst := linked _ (first_linked l n hf)
 have behind : ∀ d, firstF l n + d < n → ∃ i, i < m ∧ R (n + i) (firstF l n + d) := by
  intro d
  induction d with
  | zero => intro _; exact hfirst
  | succ d ih =>
   intro h
   cases e : linkedB l (firstF l n + (d + 1)) with
   | true => exact linked _ e
   | false =>
    obtain ⟨i, hi, h'⟩ := ih (by omega)
    exact ⟨i, hi, hR.eqv.trans _ _ _ h' (hR.stray (firstF l n + (d + 1)) (by omega) h e)⟩
 have ahead : ∀ d, d ≤ firstF l n → ∃ i, i < m ∧ R (n + i) (firstF l n - d) := by
  intro d
  induction d with
  | zero => intro _; exact hfirst
  | succ d ih =>
   intro h
   obtain ⟨i, hi, h'⟩ := ih (by omega)
   have := hR.ahead (firstF l n - (d + 1)) (by omega) hf
   rw [show firstF l n - (d + 1) + 1 = firstF l n - d by omega] at this
   exact ⟨i, hi, hR.eqv.trans _ _ _ h' (hR.eqv.symm _ _ this)⟩
 rcases Nat.lt_or_ge j (firstF l n) with h | h
 ·have := ahead (firstF l n - j) (by omega)
  rwa [show firstF l n - (firstF l n - j) = j by omega] at this
 ·have := behind (j - firstF l n) (by omega)
  rwa [show firstF l n + (j - firstF l n) = j by omega] at this
theorem ins_met {n m : Nat} {l : List Lk} {R : Nat → Nat → Prop} (hR : Closed n m l R) (hb : ∀ x ∈ l, x.a < x.b ∧ x.b ≤ n) (hc : ∀ i, i < m → ∃ x ∈ l, x.c ≤ i ∧ i < x.d) (i : Nat) (hi : i < m) : ∃ j, j < n ∧ R j (n + i) := by
 obtain ⟨x, hx, h1, h2⟩ := hc i hi
 have := hb x hx
 exact ⟨x.a, by omega, hR.eqv.trans _ _ _ (hR.both x hx) (hR.outs x hx i h1 h2)⟩
end Go.Proofs.YtemhccjjcioodaaGreat.UFinest
end
section
namespace Go.Proofs.YtemhccjjcioodaaGreat.CFin
open Go.RowKit Go.Proofs.YtemhccjjcioodaaGreatW.PrintWords Go.Proofs.YtemhccjjcioodaaGreatW.PrintMore Go.Proofs.YtemhccjjcioodaaGreatW.PrintLast Go.Proofs.YtemhccjjcioodaaGreat.U Go.Proofs.YtemhccjjcioodaaGreat.PClusterFinest Go.Proofs.YtemhccjjcioodaaGreat.UFinest Go.Proofs.YtemhccjjcioodaaGreat.UFinEv
theorem ev_some {α : Type} {f : Nat → Option α} {r : α} (h : Ev f r) : ∃ k, f k = some r := by
 obtain ⟨k, h⟩ := h
 exact ⟨k, h k (Nat.le_refl _)⟩
end Go.Proofs.YtemhccjjcioodaaGreat.CFin
namespace Go.Proofs.YtemhccjjcioodaaGreat.CFin
open Go.RowKit Go.Proofs.YtemhccjjcioodaaGreatW.PrintWords Go.Proofs.YtemhccjjcioodaaGreatW.PrintMore Go.Proofs.YtemhccjjcioodaaGreatW.PrintLast Go.Proofs.YtemhccjjcioodaaGreat.U Go.Proofs.YtemhccjjcioodaaGreat.PClusterFinest Go.Proofs.YtemhccjjcioodaaGreat.UFinest Go.Proofs.YtemhccjjcioodaaGreat.UFinEv
def LI (w : World) (base g n cap : Nat) (xs : List Int) : Prop := Kd.R (Kd.int .i64) 3 w base (fun k => k = g) (.slice (some ⟨g, 0, none⟩) n cap) xs
theorem LI.len {w : World} {base g n cap : Nat} {xs : List Int} (h : LI w base g n cap xs) : n = xs.length := (Kd.R_reads' h).1
theorem LI.lt {w : World} {base g n cap : Nat} {xs : List Int} (h : LI w base g n cap xs) : base ≤ g := by
 obtain ⟨_, _, ho, _⟩ := h
 rcases ho.2 with ⟨e, _⟩ | ⟨g', _, _, e, hb, _⟩
 ·cases e
 ·injection e with e1 e2 e3; injection e1 with e1; injection e1 with e1 e4; rw [e1]; exact hb
theorem LI.ltw {w : World} {base g n cap : Nat} {xs : List Int} (h : LI w base g n cap xs) : g < w.heap.size := by
 obtain ⟨_, _, h2, _⟩ := (Kd.R_bound h).1 g rfl
 exact h2
theorem LI.below {w w' : World} {base g n cap : Nat} {xs : List Int} (h : LI w base g n cap xs) (hb : Below w.heap.size w w') : LI w' base g n cap xs := Kd.R_below h hb
theorem LI.of_R {w : World} {base n cap g : Nat} {ok : Nat → Prop} {xs : List Int} (h : Kd.R (Kd.int .i64) 3 w base ok (.slice (some ⟨g, 0, none⟩) n cap) xs) : LI w base g n cap xs := by
 obtain ⟨_, inner, ho, hr⟩ := h
 refine ⟨fun k hk => by simpa [Value.ownBlock] using hk.symm, inner, ho, hr.imp_ (fun _ _ hp => hp)⟩
theorem LI.put {w : World} {base g n cap : Nat} {xs : List Int} (h : LI w base g n cap xs) (i : Nat) (x : Int) : LI (w.setCell ⟨g, i, none⟩ (.int .i64 x)) base g n cap (xs.set i x) := by
 have := (Kd.R_putg h (i : Int) x).1
 rwa [Int.toNat_natCast] at this
theorem LI.cell {w : World} {base g n cap : Nat} {xs : List Int} (h : LI w base g n cap xs) (i : Nat) (hi : i < n) : w.cell? ⟨g, i, none⟩ = some (.int .i64 (xs.getD i 0)) ∧ w.frozen? ⟨g, i, none⟩ = false := by
 have := Kd.R_celln (0 : Int) h (i : Int) (by omega) (by omega)
 rw [Int.toNat_natCast] at this
 refine ⟨this.1.trans ?_, this.2⟩
 unfold rdOf
 rw [Int.toNat_natCast]
def Upto (b k : Nat) (xs : List Int) : Prop := ∀ i, i < k → xs.getD i 0 = ((b + i : Nat) : Int)
theorem Upto.set {b k : Nat} {xs : List Int} (h : Upto b k xs) (hk : k < xs.length) : Upto b (k + 1) (xs.set k ((b + k : Nat) : Int)) := by
 intro i hi
 by_cases e : i = k
 ·subst e
  rw [List.getD_eq_getElem?_getD, List.getElem?_set_self hk]
  rfl
 ·rw [List.getD_eq_getElem?_getD, List.getElem?_set_ne (fun h => e h.symm), ← List.getD_eq_getElem?_getD]
  exact h i (by omega)
def LB (w : World) (base g n cap : Nat) (xs : List Bool) : Prop := Kd.R Kd.bool 4 w base (fun k => k = g) (.slice (some ⟨g, 0, none⟩) n cap) xs
theorem LB.below {w w' : World} {base g n cap : Nat} {xs : List Bool} (h : LB w base g n cap xs) (hb : Below w.heap.size w w') : LB w' base g n cap xs := Kd.R_below h hb
theorem LB.of_R {w : World} {base n cap g : Nat} {ok : Nat → Prop} {xs : List Bool} (h : Kd.R Kd.bool 4 w base ok (.slice (some ⟨g, 0, none⟩) n cap) xs) : LB w base g n cap xs := by
 obtain ⟨_, inner, ho, hr⟩ := h
 refine ⟨fun k hk => by simpa [Value.ownBlock] using hk.symm, inner, ho, hr.imp_ (fun _ _ hp => hp)⟩
theorem LB.ltw {w : World} {base g n cap : Nat} {xs : List Bool} (h : LB w base g n cap xs) : g < w.heap.size := by
 obtain ⟨_, _, h2, _⟩ := (Kd.R_bound h).1 g rfl
 exact h2
theorem LB.cell {w : World} {base g n cap : Nat} {xs : List Bool} (h : LB w base g n cap xs) (i : Nat) (hi : i < n) : w.cell? ⟨g, i, none⟩ = some (.bool (xs.getD i false)) := by
 have := (Kd.R_celln false h (i : Int) (by omega) (by omega)).1
 rw [Int.toNat_natCast] at this
 refine this.trans ?_
 unfold rdOf
 rw [Int.toNat_natCast]
abbrev AL (w : World) (base g1 g2 gh : Nat) (v : Value) (al : List S45) : Prop := Kd.R k45 36 w base (fun k => (k ≠ g1 ∧ k ≠ g2) ∧ k ≠ gh) v al
def toS (x : Clu) : S45 := ⟨⟨(x.1.1 : Nat), (x.1.2 : Nat)⟩, ⟨(x.2.1 : Nat), (x.2.2 : Nat)⟩⟩
def cluS (n m : Nat) (L : Lab) (k : Nat) : List S45 := (cluTo n m L k).map toS
end Go.Proofs.YtemhccjjcioodaaGreat.CFin
end
