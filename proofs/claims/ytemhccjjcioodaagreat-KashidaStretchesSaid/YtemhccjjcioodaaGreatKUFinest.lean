/- Cut. -/
import Derived.Test.YtemhccjjcioodaaGreatKPKashidaStretchesx6
import Derived.Test.YtemhccjjcioodaaGreatProg
import Derived.Below
import Derived.Deep.Draws
import Derived.Deep.AppendLies
import Derived.Maps.AppendAt
import Derived.OwnWalk
import Derived.Laws.BytesArg
import Derived.Laws.MakeOwn
import Derived.Laws.OwnMore
import Derived.Deep.OwnRows
import Derived.Tactics
import Derived.Lib.ConvBytes
import Derived.Laws.Slices
import Derived.WalkKit
import Derived.KernelRfl
import Derived.RowKit3
import Derived.Deep.LoopGhost
import Derived.Deep.QuietTactic
import Derived.BigQuiet
import Derived.WideLaws
import Derived.Deep.DeepCutAuto
import Derived.Deep.CutBlock
import Derived.Deep.RegionHeld3
import Derived.Laws.Rows
import Derived.Lib.AppendStr
import Derived.ArgAppend
import Derived.Laws.IdiomCopy
import Derived.OrdersHeld
import Derived.Laws.BitsLemmas
import Derived.RowKit
import Derived.Test.YtemhccjjcioodaaGreatKWWords
import Derived.Test.YtemhccjjcioodaaGreatKWMore
import Derived.Test.YtemhccjjcioodaaGreatKAl
set_option linter.unusedSimpArgs false
set_option linter.unusedVariables false
set_option maxRecDepth 100000
set_option maxHeartbeats 16000000
namespace Go.Proofs.YtemhccjjcioodaaGreat
open Go.RowKit YtemhccjjcioodaaGreatW.PrintLast YtemhccjjcioodaaGreatW.PrintMore YtemhccjjcioodaaGreatW.PrintWords
section
namespace PKashidaStretches

attribute [local go_sem] max2_int min2_int max_two min_two max_three min_three max_four min_four
mutual
def naskhref09_Ligate.l0 : Nat → Int → Int → List (S95) → Int → Option (Int × Bool)
 | 0, _, _, _, _ => none
 | k + 1, x0, x1, x6, x7 => if x7 < (x6.length : Int) then (if 0 ≤ x7 then (if ((rd_T95 x6 x7).f0) = x0 then (naskhref09_Ligate.j1 k x0 x1 x6 x7 (x1 == 1)) else (naskhref09_Ligate.j1 k x0 x1 x6 x7 false)) else (none)) else (some (0, false))
def naskhref09_Ligate.j1 : Nat → Int → Int → List (S95) → Int → Bool → Option (Int × Bool)
 | 0, _, _, _, _, _ => none
 | k + 1, x0, x1, x6, x7, x25 => if x25 = true then (if 0 ≤ x7 then (if x7 < (x6.length : Int) then (some ((rd_T95 x6 x7).f1, true)) else (none)) else (none)) else (if 0 ≤ x7 then (if x7 < (x6.length : Int) then (if ((rd_T95 x6 x7).f0) = x0 then (if x1 = 2 then (some ((rd_T95 x6 x7).f2, true)) else (naskhref09_Ligate.l0 k x0 x1 x6 (wrap64 (x7 + 1)))) else (naskhref09_Ligate.l0 k x0 x1 x6 (wrap64 (x7 + 1)))) else (none)) else (none))
end
def naskhref09_Ligate.f (k : Nat) (a0 : Int) (a1 : Int) : Option (Int × Bool) := (api_Ligatures.f).bind fun t257 => (naskhref09_Ligate.l0 k a0 a1 t257 0)
theorem naskhref09_Ligate.mono_l : ∀ k, (∀ y0 y1 y2 y3, LeO (naskhref09_Ligate.l0 k y0 y1 y2 y3) (naskhref09_Ligate.l0 (k + 1) y0 y1 y2 y3)) ∧ (∀ y0 y1 y2 y3 y4, LeO (naskhref09_Ligate.j1 k y0 y1 y2 y3 y4) (naskhref09_Ligate.j1 (k + 1) y0 y1 y2 y3 y4))
 | 0 => ⟨fun _ _ _ _ r h => by simp [naskhref09_Ligate.l0] at h, fun _ _ _ _ _ r h => by simp [naskhref09_Ligate.j1] at h⟩
 | k + 1 => by
  obtain ⟨ih0, ih1⟩ := naskhref09_Ligate.mono_l k
  refine ⟨?_, ?_⟩
  ·intro y0 y1 y2 y3
   unfold naskhref09_Ligate.l0
   repeat' first
   | (with_reducible exact ih0 _ _ _ _)
   | (with_reducible exact ih1 _ _ _ _ _)
   | (with_reducible exact LeO.refl _)
   | (with_reducible exact LeO.none _)
   | (with_reducible refine LeO.ite ?_ ?_)
   | (with_reducible refine LeO.bind ?_ (fun _ => ?_))
   | exact ih0 _ _ _ _
   | exact ih1 _ _ _ _ _
   | exact LeO.none _
   | refine LeO.ite ?_ ?_
   | refine LeO.bind ?_ (fun _ => ?_)
  ·intro y0 y1 y2 y3 y4
   unfold naskhref09_Ligate.j1
   repeat' first
   | (with_reducible exact ih0 _ _ _ _)
   | (with_reducible exact ih1 _ _ _ _ _)
   | (with_reducible exact LeO.refl _)
   | (with_reducible exact LeO.none _)
   | (with_reducible refine LeO.ite ?_ ?_)
   | (with_reducible refine LeO.bind ?_ (fun _ => ?_))
   | exact ih0 _ _ _ _
   | exact ih1 _ _ _ _ _
   | exact LeO.none _
   | refine LeO.ite ?_ ?_
   | refine LeO.bind ?_ (fun _ => ?_)
theorem naskhref09_Ligate.mono : ∀ a0 a1 k, LeO (naskhref09_Ligate.f k a0 a1) (naskhref09_Ligate.f (k + 1) a0 a1) := by
 intro a0 a1 k
 obtain ⟨ih0, ih1⟩ := naskhref09_Ligate.mono_l k
 unfold naskhref09_Ligate.f
 repeat' first
  | (with_reducible exact ih0 _ _ _ _)
  | (with_reducible exact ih1 _ _ _ _ _)
  | (with_reducible exact LeO.refl _)
  | (with_reducible exact LeO.none _)
  | (with_reducible refine LeO.ite ?_ ?_)
  | (with_reducible refine LeO.bind ?_ (fun _ => ?_))
  | exact ih0 _ _ _ _
  | exact ih1 _ _ _ _ _
  | exact LeO.none _
  | refine LeO.ite ?_ ?_
  | refine LeO.bind ?_ (fun _ => ?_)
theorem naskhref09_Ligate.calls (k : Nat) (a0 : Int) (a1 : Int) (r1 : Int) (r2 : Bool) (w : World) (h : naskhref09_Ligate.f k a0 a1 = some (r1, r2)) :
 Calls Tryz.prog 25 #[.int .i64 a0, .int .i64 a1] w fun e w' => e = .returned (.tuple #[.int .i64 r1, .bool r2]) ∧ Below w.heap.size w w' := by
 have HB := aMk (qBr w.heap.size w)
 have H : ((api_Ligatures.f).bind fun t257 => (naskhref09_Ligate.l0 k a0 a1 t257 0)) = some (r1, r2) := h
 clear h
 replace H := qoB.mp H
 obtain ⟨t257, A30, H⟩ := H
 try dsimp only at H
 have A3 := aMk A30; clear A30
 have H' := aMk H
 clear H
 go_enter Tryz.func25, Tryz.ntmps25
 go_wp2_with (first | ((with_reducible refine gate_callee (f := 70) rfl ?_); refine goesL_ (some 8) rfl rfl Tryz.func70 (by kernel_rfl) rfl #[] rfl (by (try simp only [lm0, lm1, lm2]); first | done | rfl | (simp only [lm3, lm4]; rfl)) ?_; (with_reducible refine (api_Ligatures.calls  t257 _ A3.out).mono ?_); rintro e w4 ⟨v258, rfl, ho0, hb⟩; refine ⟨_, rfl, ?_⟩; have n0_ := aMk (Kd.R_lower ho0 (qbZ HB.out)); have n1_ := aMk (qbP HB.out hb); clear HB; have HO259 := n0_; have HB := n1_; clear n0_ n1_; (try clear ho0)))
 go_loopg [7] k (fun kq v7 w' => ∃ (x7_1 : Int), v7 = .int .i64 x7_1 ∧ Aside0 (naskhref09_Ligate.l0 kq a0 a1 t257 x7_1 = some (r1, r2)) ∧ Aside0 (kq ≤ k) ∧ Aside0 (Kd.R k95 95 w' w.heap.size (fun _ => True) v258 t257) ∧ Aside0 (Below w.heap.size w w'))
 case atStart => exact ⟨(0), rfl, H', ⟨qlR _⟩, ⟨by (with_reducible repeat (first | apply qrA | apply qrN | apply qrD)); exact HO259.out⟩, ⟨by repeat (first | (with_reducible first | exact HB.out | apply qbA | apply qbN | apply qb1) | exact HB.out)⟩⟩
 case round =>
  clear H'
  obtain ⟨x7_1, rfl, HA, HK1, HO_6, HB⟩ := hrel
  cases gk with
  | zero => exact absurd HA.out (by simp [naskhref09_Ligate.l0])
  | succ k1 =>
   have H := HA.out
   clear HA
   simp only [naskhref09_Ligate.l0] at H
   by_cases c5 : x7_1 < (t257.length : Int)
   ·rw [if_pos c5] at H
    have c5b0 := qdT c5
    clear c5
    have HC6 := aMk H; clear H
    obtain ⟨Ao7, co7, eo7⟩ := Kd.R_slice HO_6.out
    subst eo7
    go_upto_region 5 with (fail)
    go_cut [25] (fun v25 wc => ∃ (kq : Nat) (x25_5 : Bool), v25 = .bool x25_5 ∧ Aside0 (naskhref09_Ligate.j1 kq a0 a1 t257 x7_1 x25_5 = some (r1, r2)) ∧ Aside0 (kq ≤ k1) ∧ Aside0 (Kd.R k95 95 wc w.heap.size (fun _ => True) (.slice Ao7 t257.length co7) t257) ∧ Aside0 (Below w.heap.size w wc))
    case first =>
     have H := HC6.out
     clear HC6
     by_cases c8 : 0 ≤ x7_1
     ·rw [if_pos c8] at H
      have c8b0 := qdT c8
      clear c8
      (first | rw [c8b0] | (simp only [i64_w, i32_w]; rw [c8b0]) | skip)
      by_cases c9 : ((rd_T95 t257 x7_1).f0) = a0
      ·rw [if_pos c9] at H
       have c9b0 : (((rd_T95 t257 x7_1).f0) == a0) = true := beq_iff_eq.mpr c9
       have c9b1 : (((rd_T95 t257 x7_1).f0) != a0) = false := bne_eq_false_iff_eq.mpr c9
       clear c9
       have H' := aMk H
       clear H
       have p260 : 0 ≤ (x7_1 : Int) := qoD (by assumption)
       have q260 : x7_1 < (t257.length : Int) := qoD (by assumption)
       obtain ⟨ad260, e260, hx260_0, hx260_1, hx260_2⟩ := at_T95 (Kd.R_reads' HO_6.out).2.2 x7_1 p260 q260
       cases e260
       replace p260 := eq_true p260
       replace q260 := eq_true q260
       go_wp2
       go_meet
       case rel => exact ⟨_, ((a1 == 1)), rfl, H', ⟨by have := HK1.out; first | omega | exact qlR _⟩, ⟨by (with_reducible repeat (first | apply qrA | apply qrN | apply qrD)); exact HO_6.out⟩, ⟨by repeat (first | (with_reducible first | exact HB.out | apply qbA | apply qbN | apply qb1) | exact HB.out)⟩⟩
      ·rw [if_neg c9] at H
       have c9b0 : (((rd_T95 t257 x7_1).f0) == a0) = false := beq_eq_false_iff_ne.mpr c9
       have c9b1 : (((rd_T95 t257 x7_1).f0) != a0) = true := bne_iff_ne.mpr c9
       have H' := aMk H
       clear H
       have p260 : 0 ≤ (x7_1 : Int) := qoD (by assumption)
       have q260 : x7_1 < (t257.length : Int) := qoD (by assumption)
       obtain ⟨ad260, e260, hx260_0, hx260_1, hx260_2⟩ := at_T95 (Kd.R_reads' HO_6.out).2.2 x7_1 p260 q260
       cases e260
       replace p260 := eq_true p260
       replace q260 := eq_true q260
       go_wp2
       go_meet
       case rel => exact ⟨_, (false), rfl, H', ⟨by have := HK1.out; first | omega | exact qlR _⟩, ⟨by (with_reducible repeat (first | apply qrA | apply qrN | apply qrD)); exact HO_6.out⟩, ⟨by repeat (first | (with_reducible first | exact HB.out | apply qbA | apply qbN | apply qb1) | exact HB.out)⟩⟩
     ·rw [if_neg c8] at H
      exact absurd H (by simp)
    case rest =>
     clear HC6
     obtain ⟨kq, x25_5, rfl, HA, HJ5, HO_6, HB⟩ := hcut
     cases kq with
     | zero => exact absurd HA.out (by simp [naskhref09_Ligate.j1])
     | succ kj5 =>
      have H := HA.out
      clear HA
      simp only [naskhref09_Ligate.j1] at H
      by_cases c10 : x25_5 = true
      ·subst c10
       rw [if_pos rfl] at H
       by_cases c11 : 0 ≤ x7_1
       ·rw [if_pos c11] at H
        have c11b0 := qdT c11
        clear c11
        by_cases c12 : x7_1 < (t257.length : Int)
        ·rw [if_pos c12] at H
         have c12b0 := qdT c12
         clear c12
         simp only [Option.some.injEq, Prod.mk.injEq] at H
         obtain ⟨rfl, rfl⟩ := H
         have p261 : 0 ≤ (x7_1 : Int) := qoD (by assumption)
         have q261 : x7_1 < (t257.length : Int) := qoD (by assumption)
         obtain ⟨ad261, e261, hx261_0, hx261_1, hx261_2⟩ := at_T95 (Kd.R_reads' HO_6.out).2.2 x7_1 p261 q261
         cases e261
         replace p261 := eq_true p261
         replace q261 := eq_true q261
         go_wp2
         go_ret2
         exact ⟨rfl, by repeat (first | (with_reducible first | exact HB.out | apply qbA | apply qbN | apply qb1) | exact HB.out)⟩
        ·rw [if_neg c12] at H
         exact absurd H (by simp)
       ·rw [if_neg c11] at H
        exact absurd H (by simp)
      ·replace c10 := qbE.mpr c10
       subst c10
       rw [if_neg (show ¬ (false = true) by decide)] at H
       by_cases c13 : 0 ≤ x7_1
       ·rw [if_pos c13] at H
        have c13b0 := qdT c13
        clear c13
        by_cases c14 : x7_1 < (t257.length : Int)
        ·rw [if_pos c14] at H
         have c14b0 := qdT c14
         clear c14
         by_cases c15 : ((rd_T95 t257 x7_1).f0) = a0
         ·rw [if_pos c15] at H
          have c15b0 : (((rd_T95 t257 x7_1).f0) == a0) = true := beq_iff_eq.mpr c15
          have c15b1 : (((rd_T95 t257 x7_1).f0) != a0) = false := bne_eq_false_iff_eq.mpr c15
          clear c15
          by_cases c16 : a1 = 2
          ·rw [if_pos c16] at H
           have c16b0 : (a1 == 2) = true := beq_iff_eq.mpr c16
           have c16b1 : (a1 != 2) = false := bne_eq_false_iff_eq.mpr c16
           clear c16
           simp only [Option.some.injEq, Prod.mk.injEq] at H
           obtain ⟨rfl, rfl⟩ := H
           have p262 : 0 ≤ (x7_1 : Int) := qoD (by assumption)
           have q262 : x7_1 < (t257.length : Int) := qoD (by assumption)
           obtain ⟨ad262, e262, hx262_0, hx262_1, hx262_2⟩ := at_T95 (Kd.R_reads' HO_6.out).2.2 x7_1 p262 q262
           cases e262
           replace p262 := eq_true p262
           replace q262 := eq_true q262
           have p263 : 0 ≤ (x7_1 : Int) := qoD (by assumption)
           have q263 : x7_1 < (t257.length : Int) := qoD (by assumption)
           obtain ⟨ad263, e263, hx263_0, hx263_1, hx263_2⟩ := at_T95 (Kd.R_reads' HO_6.out).2.2 x7_1 p263 q263
           obtain rfl : ad262 = ad263 := (by injection e263)
           replace p263 := eq_true p263
           replace q263 := eq_true q263
           go_wp2
           go_ret2
           exact ⟨rfl, by repeat (first | (with_reducible first | exact HB.out | apply qbA | apply qbN | apply qb1) | exact HB.out)⟩
          ·rw [if_neg c16] at H
           have c16b0 : (a1 == 2) = false := beq_eq_false_iff_ne.mpr c16
           have c16b1 : (a1 != 2) = true := bne_iff_ne.mpr c16
           have H' := aMk H
           clear H
           have p262 : 0 ≤ (x7_1 : Int) := qoD (by assumption)
           have q262 : x7_1 < (t257.length : Int) := qoD (by assumption)
           obtain ⟨ad262, e262, hx262_0, hx262_1, hx262_2⟩ := at_T95 (Kd.R_reads' HO_6.out).2.2 x7_1 p262 q262
           cases e262
           replace p262 := eq_true p262
           replace q262 := eq_true q262
           go_wp2
           go_roundg kj5
           case measure => have := HK1.out; have := HJ5.out; omega
           case rel => exact ⟨(wrap64 (x7_1 + 1)), rfl, H', ⟨by have := HK1.out; have := HJ5.out; omega⟩, ⟨by (with_reducible repeat (first | apply qrA | apply qrN | apply qrD)); exact HO_6.out⟩, ⟨by repeat (first | (with_reducible first | exact HB.out | apply qbA | apply qbN | apply qb1) | exact HB.out)⟩⟩
         ·rw [if_neg c15] at H
          have c15b0 : (((rd_T95 t257 x7_1).f0) == a0) = false := beq_eq_false_iff_ne.mpr c15
          have c15b1 : (((rd_T95 t257 x7_1).f0) != a0) = true := bne_iff_ne.mpr c15
          have H' := aMk H
          clear H
          have p262 : 0 ≤ (x7_1 : Int) := qoD (by assumption)
          have q262 : x7_1 < (t257.length : Int) := qoD (by assumption)
          obtain ⟨ad262, e262, hx262_0, hx262_1, hx262_2⟩ := at_T95 (Kd.R_reads' HO_6.out).2.2 x7_1 p262 q262
          cases e262
          replace p262 := eq_true p262
          replace q262 := eq_true q262
          go_wp2
          go_roundg kj5
          case measure => have := HK1.out; have := HJ5.out; omega
          case rel => exact ⟨(wrap64 (x7_1 + 1)), rfl, H', ⟨by have := HK1.out; have := HJ5.out; omega⟩, ⟨by (with_reducible repeat (first | apply qrA | apply qrN | apply qrD)); exact HO_6.out⟩, ⟨by repeat (first | (with_reducible first | exact HB.out | apply qbA | apply qbN | apply qb1) | exact HB.out)⟩⟩
        ·rw [if_neg c14] at H
         exact absurd H (by simp)
       ·rw [if_neg c13] at H
        exact absurd H (by simp)
   ·rw [if_neg c5] at H
    have c5b0 := qdF c5
    clear c5
    simp only [Option.some.injEq, Prod.mk.injEq] at H
    obtain ⟨rfl, rfl⟩ := H
    obtain ⟨Ao17, co17, eo17⟩ := Kd.R_slice HO_6.out
    subst eo17
    go_wp2
    go_ret2
    exact ⟨rfl, by repeat (first | (with_reducible first | exact HB.out | apply qbA | apply qbN | apply qb1) | exact HB.out)⟩
def naskhref14_Alef.f (k : Nat) (a0 : Int) : Option (Bool) := (naskhref09_Ligate.f k a0 1).bind fun bt264 => (some bt264.2)
theorem naskhref14_Alef.mono : ∀ a0 k, LeO (naskhref14_Alef.f k a0) (naskhref14_Alef.f (k + 1) a0) := by
 intro a0 k
 unfold naskhref14_Alef.f
 repeat' first
  | (with_reducible exact naskhref09_Ligate.mono _ _ _)
  | (with_reducible exact LeO.refl _)
  | (with_reducible exact LeO.none _)
  | (with_reducible refine LeO.ite ?_ ?_)
  | (with_reducible refine LeO.bind ?_ (fun _ => ?_))
  | exact naskhref09_Ligate.mono _ _ _
  | exact LeO.none _
  | refine LeO.ite ?_ ?_
  | refine LeO.bind ?_ (fun _ => ?_)
theorem naskhref14_Alef.calls (k : Nat) (a0 : Int) (r : Bool) (w : World) (h : naskhref14_Alef.f k a0 = some r) :
 Calls Tryz.prog 66 #[.int .i64 a0] w fun e w' => e = .returned (.bool r) ∧ Below w.heap.size w w' := by
 have HB := aMk (qBr w.heap.size w)
 have H : ((naskhref09_Ligate.f k a0 1).bind fun bt264 => (some bt264.2)) = some r := h
 clear h
 replace H := qoB.mp H
 obtain ⟨⟨t264, t265⟩, A20, H⟩ := H
 replace H : (some t265) = some r := H
 have A2 := aMk A20; clear A20
 obtain rfl := qoI H
 go_enter Tryz.func66, Tryz.ntmps66
 go_wp2_with (first | ((with_reducible refine gate_callee (f := 25) rfl ?_); refine goesL_ (some 7) rfl rfl Tryz.func25 (by kernel_rfl) rfl #[.int .i64 a0, .int .i64 1] rfl (by (try simp only [lm0, lm1, lm2]); first | done | rfl | (simp only [lm3, lm4]; rfl)) ?_; (with_reducible refine (naskhref09_Ligate.calls k a0 1 t264 t265 _ A2.out).mono ?_); rintro e w3 ⟨rfl, hb⟩; refine ⟨_, rfl, ?_⟩; have n0_ := aMk (qbP (by repeat (first | (with_reducible first | exact HB.out | apply qbA | apply qbN | apply qb1) | exact HB.out)) hb); clear HB; have HB := n0_; clear n0_; (try clear hi)))
 go_ret
 exact ⟨by first | rfl | (simp [errW_none, errW_some] <;> rfl) | (simp [*, errW_none, errW_some] <;> rfl), by repeat (first | (with_reducible first | exact HB.out | apply qbA | apply qbN | apply qb1) | exact HB.out)⟩
end PKashidaStretches
end
section
namespace PClusterFinest

attribute [local go_sem] max2_int min2_int max_two min_two max_three min_three max_four min_four
def errW : Option Int → Value
 | none => .nilIface
 | some c => .iface 0 (.int .i64 c)
theorem errW_none : errW none = .nilIface := rfl
theorem errW_some (c : Int) : errW (some c) = .iface 0 (.int .i64 c) := rfl
theorem info3 : (Tryz.prog.info? 3).map (fun i => (i.zero, i.size, i.bytes)) = some (some (.int .i64 0), 1, 8) := by kernel_rfl
theorem info4 : (Tryz.prog.info? 4).map (fun i => (i.zero, i.size, i.bytes)) = some (some (.bool false), 1, 1) := by kernel_rfl
theorem info45 : (Tryz.prog.info? 36).map (fun i => (i.zero, i.size, i.bytes)) = some (some (.agg #[(.int .i64 0), (.int .i64 0), (.int .i64 0), (.int .i64 0)]), 4, 32) := by kernel_rfl
-- the values' own types
structure S33 where
 f0 : Int
 f1 : Int
def z33 : S33 := ⟨(0 : Int), (0 : Int)⟩
def k33 : Kd S33 := Kd.iso (Kd.pair (Kd.int .i64) (Kd.int .i64)) (fun x : S33 => (x.f0, x.f1))
theorem k33_open {w : World} {x : S33} {cs : List Value} (h : k33.K w x cs) : cs = [.int .i64 x.f0, .int .i64 x.f1] := by
 obtain ⟨_, _, rfl, rfl, rfl⟩ := h
 exact rfl
theorem k33_openM {w : World} {base : Nat} {ok : Nat → Prop} {x : S33} {cs : List Value} (h : k33.M w base ok x cs) : cs = [.int .i64 x.f0, .int .i64 x.f1] := by
 obtain ⟨_, _, rfl, rfl, rfl⟩ := h
 exact rfl
theorem k33_mk (w : World) (x : S33)  : k33.K w x [.int .i64 x.f0, .int .i64 x.f1] := ⟨[.int .i64 x.f0], [.int .i64 x.f1], rfl, rfl, rfl⟩
theorem k33_mkM (w : World) (base : Nat) (ok : Nat → Prop) (x : S33)  : k33.M w base ok x [.int .i64 x.f0, .int .i64 x.f1] := ⟨[.int .i64 x.f0], [.int .i64 x.f1], rfl, rfl, rfl⟩
def rd_T33 (xs : List S33) (i : Int) : S33 := xs.getD i.toNat z33
theorem at_T33 {w : World} {A : Option Addr} {n : Nat} {xs : List S33} (h : Kd.C k33 w A n xs) (i : Int) (h0 : 0 ≤ i) (h1 : i < n) : ∃ ad , A = some ad ∧ w.cell? (ad.add (i.toNat * 2)) = some (.int .i64 (rd_T33 xs i).f0) ∧ w.cell? ⟨(ad.add (i.toNat * 2)).block, (ad.add (i.toNat * 2)).off + 1, none⟩ = some (.int .i64 (rd_T33 xs i).f1) := by
 obtain ⟨ad, c, e, _, hK, hc0⟩ := Kd.C_get h z33 i h0 h1
 have hc : ∀ j u, c[j]? = some u → w.cell? (ad.add (i.toNat * 2 + j)) = some u := hc0
 obtain rfl := k33_open hK
 exact ⟨ad, e, hc 0 _ rfl, by rw [← add_field _ _ 1 (by omega)]; exact hc 1 _ rfl⟩
structure S45 where
 f0 : S33
 f1 : S33
def z45 : S45 := ⟨z33, z33⟩
def k45 : Kd S45 := Kd.iso (Kd.pair k33 k33) (fun x : S45 => (x.f0, x.f1))
theorem k45_open {w : World} {x : S45} {cs : List Value} (h : k45.K w x cs) : cs = [.int .i64 x.f0.f0, .int .i64 x.f0.f1, .int .i64 x.f1.f0, .int .i64 x.f1.f1] := by
 obtain ⟨_, _, rfl, s0, s2⟩ := h
 obtain rfl := k33_open s0
 obtain rfl := k33_open s2
 exact rfl
theorem k45_openM {w : World} {base : Nat} {ok : Nat → Prop} {x : S45} {cs : List Value} (h : k45.M w base ok x cs) : cs = [.int .i64 x.f0.f0, .int .i64 x.f0.f1, .int .i64 x.f1.f0, .int .i64 x.f1.f1] := by
 obtain ⟨_, _, rfl, s0, s2⟩ := h
 obtain rfl := k33_openM s0
 obtain rfl := k33_openM s2
 exact rfl
theorem k45_mkM (w : World) (base : Nat) (ok : Nat → Prop) (x : S45)  : k45.M w base ok x [.int .i64 x.f0.f0, .int .i64 x.f0.f1, .int .i64 x.f1.f0, .int .i64 x.f1.f1] := ⟨[.int .i64 x.f0.f0, .int .i64 x.f0.f1], [.int .i64 x.f1.f0, .int .i64 x.f1.f1], rfl, (k33_mkM w base ok x.f0 ), (k33_mkM w base ok x.f1 )⟩
def rd_T45 (xs : List S45) (i : Int) : S45 := xs.getD i.toNat z45
theorem at_T45 {w : World} {A : Option Addr} {n : Nat} {xs : List S45} (h : Kd.C k45 w A n xs) (i : Int) (h0 : 0 ≤ i) (h1 : i < n) : ∃ ad , A = some ad ∧ w.cell? (ad.add (i.toNat * 4)) = some (.int .i64 (rd_T45 xs i).f0.f0) ∧ w.cell? ⟨(ad.add (i.toNat * 4)).block, (ad.add (i.toNat * 4)).off + 1, none⟩ = some (.int .i64 (rd_T45 xs i).f0.f1) ∧ w.cell? ⟨(ad.add (i.toNat * 4)).block, (ad.add (i.toNat * 4)).off + 2, none⟩ = some (.int .i64 (rd_T45 xs i).f1.f0) ∧ w.cell? ⟨(ad.add (i.toNat * 4)).block, (ad.add (i.toNat * 4)).off + 3, none⟩ = some (.int .i64 (rd_T45 xs i).f1.f1) := by
 obtain ⟨ad, c, e, _, hK, hc0⟩ := Kd.C_get h z45 i h0 h1
 have hc : ∀ j u, c[j]? = some u → w.cell? (ad.add (i.toNat * 4 + j)) = some u := hc0
 obtain rfl := k45_open hK
 exact ⟨ad, e, hc 0 _ rfl, by rw [← add_field _ _ 1 (by omega)]; exact hc 1 _ rfl, by rw [← add_field _ _ 2 (by omega)]; exact hc 2 _ rfl, by rw [← add_field _ _ 3 (by omega)]; exact hc 3 _ rfl⟩
end PClusterFinest
end
section
namespace PClusterFinest

attribute [local go_sem] max2_int min2_int max_two min_two max_three min_three max_four min_four
theorem eqA33 (d : Nat) (w : World) (x0 y0 : Int) (x1 y1 : Int) :
 (Op.equalIn (d + 2) 34 (.agg #[.int .i64 x0, .int .i64 x1]) (.agg #[.int .i64 y0, .int .i64 y1])).run Tryz.prog w = .ok (x0 == y0 && (x1 == y1)) w := by
 refine eqA_of Tryz.underlying34 (by kernel_rfl) ?_
 refine eqf_cons (by rfl) (by go_simp; rfl) (by go_simp; rfl) (by go_simp) ?_
 exact eqf_last (by rfl) (by go_simp; rfl) (by go_simp; rfl) (by go_simp)
theorem eqA45 (d : Nat) (w : World) (x0 y0 : Int) (x1 y1 : Int) (x2 y2 : Int) (x3 y3 : Int) :
 (Op.equalIn (d + 3) 36 (.agg #[.int .i64 x0, .int .i64 x1, .int .i64 x2, .int .i64 x3]) (.agg #[.int .i64 y0, .int .i64 y1, .int .i64 y2, .int .i64 y3])).run Tryz.prog w = .ok ((x0 == y0 && (x1 == y1)) && ((x2 == y2 && (x3 == y3)))) w := by
 refine eqA_of Tryz.underlying36 (by kernel_rfl) ?_
 refine eqf_cons (by rfl) (by go_simp) (by go_simp) (eqA33 (d + 0) w _ _ _ _) ?_
 exact eqf_last (by rfl) (by go_simp) (by go_simp) (eqA33 (d + 0) w _ _ _ _)
end PClusterFinest
end
section
namespace PClusterFinest

attribute [local go_sem] max2_int min2_int max_two min_two max_three min_three max_four min_four
attribute [local go_sem high] eqA45
def span_Right.f (a0_0 : Int) (a0_1 : Int) : Option (Bool) := if 0 ≤ a0_0 then (some (decide (a0_0 < a0_1))) else (some false)
theorem span_Right.calls (a0_0 : Int) (a0_1 : Int) (r : Bool) (w : World) (h : span_Right.f a0_0 a0_1 = some r) :
 Calls Tryz.prog 119 #[.agg #[.int .i64 a0_0, .int .i64 a0_1]] w fun e w' => e = .returned (.bool r) ∧ Below w.heap.size w w' := by
 have hu33 := Tryz.underlying34
 have HB := aMk (qBr w.heap.size w)
 have H : (if 0 ≤ a0_0 then (some (decide (a0_0 < a0_1))) else (some false)) = some r := h
 clear h
 by_cases c2 : 0 ≤ a0_0
 ·rw [if_pos c2] at H
  have c2b0 := qdT c2
  clear c2
  obtain rfl := qoI H
  go_enter Tryz.func119, Tryz.ntmps119
  go_wp2_with (first | ((with_reducible refine gate_dst (N := 1) rfl ?_); refine box_event ?hg (N := 1) ?hd (cs := #[.int .i64 a0_0, .int .i64 a0_1]) (t := 34) ?hr ?_; (case hd => rfl); (case hg => rfl); (case hr => go_simp; done); intro gb108 hg w3 hbox hb; have n0_ := aMk (qbP HB.out hb); have n1_ := aMk (hbox); have n2_ := aMk ((by rw [hg]; exact (qbZ HB.out) : w.heap.size ≤ gb108)); have n3_ := aMk ((by rw [hg]; exact (qbZ HB.out) : w.heap.size ≤ gb108)); clear HB; have HB := n0_; have BK108 := n1_; have GW108 := n2_; have GE108 := n3_; clear n0_ n1_ n2_ n3_; clear hb hbox hg; have hcz4_0 : w3.cell? ⟨gb108, 0, none⟩ = some (.int .i64 a0_0) := (blk_cell BK108.out 0).trans rfl; have hcz4_1 : w3.cell? ⟨gb108, 1, none⟩ = some (.int .i64 a0_1) := (blk_cell BK108.out 1).trans rfl; have hfz4_0 := qbF BK108.out 0; have hfz4_1 := qbF BK108.out 1))
  go_ret
  exact ⟨rfl, by repeat (first | (with_reducible first | exact HB.out | apply qbA | apply qbN | apply qb1 | refine qbS ?_ GE108.out) | exact HB.out)⟩
 ·rw [if_neg c2] at H
  have c2b0 := qdF c2
  clear c2
  obtain rfl := qoI H
  go_enter Tryz.func119, Tryz.ntmps119
  go_wp2_with (first | ((with_reducible refine gate_dst (N := 1) rfl ?_); refine box_event ?hg (N := 1) ?hd (cs := #[.int .i64 a0_0, .int .i64 a0_1]) (t := 34) ?hr ?_; (case hd => rfl); (case hg => rfl); (case hr => go_simp; done); intro gb108 hg w5 hbox hb; have n0_ := aMk (qbP HB.out hb); have n1_ := aMk (hbox); have n2_ := aMk ((by rw [hg]; exact (qbZ HB.out) : w.heap.size ≤ gb108)); have n3_ := aMk ((by rw [hg]; exact (qbZ HB.out) : w.heap.size ≤ gb108)); clear HB; have HB := n0_; have BK108 := n1_; have GW108 := n2_; have GE108 := n3_; clear n0_ n1_ n2_ n3_; clear hb hbox hg; have hcz6_0 : w5.cell? ⟨gb108, 0, none⟩ = some (.int .i64 a0_0) := (blk_cell BK108.out 0).trans rfl; have hcz6_1 : w5.cell? ⟨gb108, 1, none⟩ = some (.int .i64 a0_1) := (blk_cell BK108.out 1).trans rfl; have hfz6_0 := qbF BK108.out 0; have hfz6_1 := qbF BK108.out 1))
  go_ret
  exact ⟨rfl, by repeat (first | (with_reducible first | exact HB.out | apply qbA | apply qbN | apply qb1 | refine qbS ?_ GE108.out) | exact HB.out)⟩
def span_Parts.l0 : Nat → Int → Int → List (S33) → Int → Int → Option (Bool)
 | 0, _, _, _, _, _ => none
 | k + 1, x1, x5, x8, x9, x10 => if x10 < x9 then (if 0 ≤ x10 then (if x10 < (x8.length : Int) then (if ((rd_T33 x8 x10).f0) = x5 then ((span_Right.f ((rd_T33 x8 x10).f0) ((rd_T33 x8 x10).f1)).bind fun t111 => (if t111 = true then (span_Parts.l0 k x1 ((rd_T33 x8 x10).f1) x8 x9 (wrap64 (x10 + 1))) else (some false))) else (some false)) else (none)) else (none)) else (some (x5 == x1))
def span_Parts.f (k : Nat) (l0 : List (S33)) (a1 : Int) : Option (Bool) := span_Parts.l0 k a1 0 l0 (l0.length : Int) 0
theorem span_Parts.mono_l : ∀ k, (∀ y0 y1 y2 y3 y4, LeO (span_Parts.l0 k y0 y1 y2 y3 y4) (span_Parts.l0 (k + 1) y0 y1 y2 y3 y4))
 | 0 => fun _ _ _ _ _ r h => by simp [span_Parts.l0] at h
 | k + 1 => by
  have ih0 := span_Parts.mono_l k
  ·intro y0 y1 y2 y3 y4
   unfold span_Parts.l0
   repeat' first
   | (with_reducible exact ih0 _ _ _ _ _)
   | (with_reducible exact LeO.refl _)
   | (with_reducible exact LeO.none _)
   | (with_reducible refine LeO.ite ?_ ?_)
   | (with_reducible refine LeO.bind ?_ (fun _ => ?_))
   | exact ih0 _ _ _ _ _
   | exact LeO.none _
   | refine LeO.ite ?_ ?_
   | refine LeO.bind ?_ (fun _ => ?_)
theorem span_Parts.mono : ∀ a0 a1 k, LeO (span_Parts.f k a0 a1) (span_Parts.f (k + 1) a0 a1) := by
 intro a0 a1 k
 have ih0 := span_Parts.mono_l k
 unfold span_Parts.f
 repeat' first
  | (with_reducible exact ih0 _ _ _ _ _)
  | (with_reducible exact LeO.refl _)
  | (with_reducible exact LeO.none _)
  | (with_reducible refine LeO.ite ?_ ?_)
  | (with_reducible refine LeO.bind ?_ (fun _ => ?_))
  | exact ih0 _ _ _ _ _
  | exact LeO.none _
  | refine LeO.ite ?_ ?_
  | refine LeO.bind ?_ (fun _ => ?_)
theorem span_Parts.calls (k : Nat) (A0 : Option Addr) (c0 : Nat) (l0 : List (S33)) (a1 : Int) (r : Bool) (w : World) (hr0 : Kd.C k33 w A0 l0.length l0) (hc0 : l0.length ≤ c0) (h : span_Parts.f k l0 a1 = some r) :
 Calls Tryz.prog 91 #[.slice A0 l0.length c0, .int .i64 a1] w fun e w' => e = .returned (.bool r) ∧ Below w.heap.size w w' := by
 have hu33 := Tryz.underlying34
 have HR0 := aMk hr0
 have HC0 := aMk hc0
 clear hr0 hc0
 have HB := aMk (qBr w.heap.size w)
 have H : (span_Parts.l0 k a1 0 l0 (l0.length : Int) 0) = some r := h
 clear h
 have H' := aMk H
 clear H
 go_enter Tryz.func91, Tryz.ntmps91
 go_wp2
 go_loopg [5, 10] k (fun kq v5 v10 w' => ∃ (x5_1 : Int) (x10_1 : Int), v5 = .int .i64 x5_1 ∧ v10 = .int .i64 x10_1 ∧ Aside0 (span_Parts.l0 kq a1 x5_1 l0 (l0.length : Int) x10_1 = some r) ∧ Aside0 (kq ≤ k) ∧ Aside0 (Below w.heap.size w w'))
 case atStart => exact ⟨(0), (0), rfl, rfl, H', ⟨qlR _⟩, ⟨by repeat (first | (with_reducible first | exact HB.out | apply qbA | apply qbN | apply qb1) | exact HB.out)⟩⟩
 case round =>
  clear H'
  obtain ⟨x5_1, x10_1, rfl, rfl, HA, HK1, HB⟩ := hrel
  cases gk with
  | zero => exact absurd HA.out (by simp [span_Parts.l0])
  | succ k1 =>
   have H := HA.out
   clear HA
   simp only [span_Parts.l0] at H
   by_cases c3 : x10_1 < (l0.length : Int)
   ·rw [if_pos c3] at H
    have c3b0 := qdT c3
    clear c3
    by_cases c4 : 0 ≤ x10_1
    ·rw [if_pos c4] at H
     have c4b0 := qdT c4
     clear c4
     by_cases c5 : x10_1 < (l0.length : Int)
     ·rw [if_pos c5] at H
      have c5b0 := qdT c5
      clear c5
      by_cases c6 : ((rd_T33 l0 x10_1).f0) = x5_1
      ·rw [if_pos c6] at H
       have c6b0 : (((rd_T33 l0 x10_1).f0) == x5_1) = true := beq_iff_eq.mpr c6
       have c6b1 : (((rd_T33 l0 x10_1).f0) != x5_1) = false := bne_eq_false_iff_eq.mpr c6
       clear c6
       replace H := qoB.mp H
       obtain ⟨t111, A70, H⟩ := H
       try dsimp only at H
       have A7 := aMk A70; clear A70
       by_cases c8 : t111 = true
       ·subst c8
        rw [if_pos rfl] at H
        have H' := aMk H
        clear H
        have p109 : 0 ≤ (x10_1 : Int) := qoD (by assumption)
        have q109 : x10_1 < (l0.length : Int) := qoD (by assumption)
        obtain ⟨ad109, e109, hx109_0, hx109_1⟩ := at_T33 HR0.out x10_1 p109 q109
        cases e109
        replace hx109_0 := (HB.out.cell (qwL w _ hx109_0)).trans hx109_0
        replace hx109_1 := (HB.out.cell (qwL w _ hx109_1)).trans hx109_1
        replace p109 := eq_true p109
        replace q109 := eq_true q109
        go_wp2_with (first | ((with_reducible refine gate_dst (N := 7) rfl ?_); refine box_event ?hg (N := 7) ?hd (cs := #[.int .i64 0, .int .i64 0]) (t := 34) ?hr ?_; (case hd => rfl); (case hg => rfl); (case hr => go_simp; done); intro gb110 hg w9 hbox hb; have n0_ := aMk (qbP HB.out hb); have n1_ := aMk (hbox); have n2_ := aMk ((by rw [hg]; exact (qbZ HB.out) : w.heap.size ≤ gb110)); have n3_ := aMk ((by rw [hg]; exact (qbZ HB.out) : w.heap.size ≤ gb110)); clear HB; have HB := n0_; have BK110 := n1_; have GW110 := n2_; have GE110 := n3_; clear n0_ n1_ n2_ n3_; clear hb hbox hg; have hcz10_0 : w9.cell? ⟨gb110, 0, none⟩ = some (.int .i64 0) := (blk_cell BK110.out 0).trans rfl; have hcz10_1 : w9.cell? ⟨gb110, 1, none⟩ = some (.int .i64 0) := (blk_cell BK110.out 1).trans rfl; have hfz10_0 := qbF BK110.out 0; have hfz10_1 := qbF BK110.out 1) | (go_at_call 119; (with_reducible refine (span_Right.calls ((rd_T33 l0 x10_1).f0) ((rd_T33 l0 x10_1).f1) true _ A7.out).mono ?_); rintro e w11 ⟨rfl, hb⟩; have n0_ := aMk (blk_below (g := gb110) (o := .cells #[.int .i64 ((rd_T33 l0 x10_1).f0), .int .i64 ((rd_T33 l0 x10_1).f1)] 34 (0, 0)) (by refine blk_put (cs := #[.int .i64 ((rd_T33 l0 x10_1).f0), .int .i64 0]) ?_ 1 _ rfl; refine blk_put (cs := #[.int .i64 0, .int .i64 0]) ?_ 0 _ rfl; exact BK110.out) hb); have n1_ := aMk (qbP (by repeat (first | (with_reducible first | exact HB.out | apply qbA | apply qbN | apply qb1 | refine qbS ?_ GE110.out) | exact HB.out)) hb); clear BK110; clear HB; have BK110 := n0_; have HB := n1_; clear n0_ n1_; have hcz12_0 : w11.cell? ⟨gb110, 0, none⟩ = some (.int .i64 ((rd_T33 l0 x10_1).f0)) := (blk_cell BK110.out 0).trans rfl; have hcz12_1 : w11.cell? ⟨gb110, 1, none⟩ = some (.int .i64 ((rd_T33 l0 x10_1).f1)) := (blk_cell BK110.out 1).trans rfl; have hfz12_0 := qbF BK110.out 0; have hfz12_1 := qbF BK110.out 1))
        go_roundg k1
        case measure => have := HK1.out; omega
        case rel => exact ⟨((rd_T33 l0 x10_1).f1), (wrap64 (x10_1 + 1)), rfl, rfl, H', ⟨by have := HK1.out; omega⟩, ⟨by repeat (first | (with_reducible first | exact HB.out | apply qbA | apply qbN | apply qb1 | refine qbS ?_ GE110.out) | exact HB.out)⟩⟩
       ·replace c8 := qbE.mpr c8
        subst c8
        rw [if_neg (show ¬ (false = true) by decide)] at H
        obtain rfl := qoI H
        have p109 : 0 ≤ (x10_1 : Int) := qoD (by assumption)
        have q109 : x10_1 < (l0.length : Int) := qoD (by assumption)
        obtain ⟨ad109, e109, hx109_0, hx109_1⟩ := at_T33 HR0.out x10_1 p109 q109
        cases e109
        replace hx109_0 := (HB.out.cell (qwL w _ hx109_0)).trans hx109_0
        replace hx109_1 := (HB.out.cell (qwL w _ hx109_1)).trans hx109_1
        replace p109 := eq_true p109
        replace q109 := eq_true q109
        go_wp2_with (first | ((with_reducible refine gate_dst (N := 7) rfl ?_); refine box_event ?hg (N := 7) ?hd (cs := #[.int .i64 0, .int .i64 0]) (t := 34) ?hr ?_; (case hd => rfl); (case hg => rfl); (case hr => go_simp; done); intro gb110 hg w13 hbox hb; have n0_ := aMk (qbP HB.out hb); have n1_ := aMk (hbox); have n2_ := aMk ((by rw [hg]; exact (qbZ HB.out) : w.heap.size ≤ gb110)); have n3_ := aMk ((by rw [hg]; exact (qbZ HB.out) : w.heap.size ≤ gb110)); clear HB; have HB := n0_; have BK110 := n1_; have GW110 := n2_; have GE110 := n3_; clear n0_ n1_ n2_ n3_; clear hb hbox hg; have hcz14_0 : w13.cell? ⟨gb110, 0, none⟩ = some (.int .i64 0) := (blk_cell BK110.out 0).trans rfl; have hcz14_1 : w13.cell? ⟨gb110, 1, none⟩ = some (.int .i64 0) := (blk_cell BK110.out 1).trans rfl; have hfz14_0 := qbF BK110.out 0; have hfz14_1 := qbF BK110.out 1) | (go_at_call 119; (with_reducible refine (span_Right.calls ((rd_T33 l0 x10_1).f0) ((rd_T33 l0 x10_1).f1) false _ A7.out).mono ?_); rintro e w15 ⟨rfl, hb⟩; have n0_ := aMk (blk_below (g := gb110) (o := .cells #[.int .i64 ((rd_T33 l0 x10_1).f0), .int .i64 ((rd_T33 l0 x10_1).f1)] 34 (0, 0)) (by refine blk_put (cs := #[.int .i64 ((rd_T33 l0 x10_1).f0), .int .i64 0]) ?_ 1 _ rfl; refine blk_put (cs := #[.int .i64 0, .int .i64 0]) ?_ 0 _ rfl; exact BK110.out) hb); have n1_ := aMk (qbP (by repeat (first | (with_reducible first | exact HB.out | apply qbA | apply qbN | apply qb1 | refine qbS ?_ GE110.out) | exact HB.out)) hb); clear BK110; clear HB; have BK110 := n0_; have HB := n1_; clear n0_ n1_; (try clear hi)))
        go_ret
        exact ⟨rfl, by repeat (first | (with_reducible first | exact HB.out | apply qbA | apply qbN | apply qb1 | refine qbS ?_ GE110.out) | exact HB.out)⟩
      ·rw [if_neg c6] at H
       have c6b0 : (((rd_T33 l0 x10_1).f0) == x5_1) = false := beq_eq_false_iff_ne.mpr c6
       have c6b1 : (((rd_T33 l0 x10_1).f0) != x5_1) = true := bne_iff_ne.mpr c6
       obtain rfl := qoI H
       have p109 : 0 ≤ (x10_1 : Int) := qoD (by assumption)
       have q109 : x10_1 < (l0.length : Int) := qoD (by assumption)
       obtain ⟨ad109, e109, hx109_0, hx109_1⟩ := at_T33 HR0.out x10_1 p109 q109
       cases e109
       replace hx109_0 := (HB.out.cell (qwL w _ hx109_0)).trans hx109_0
       replace hx109_1 := (HB.out.cell (qwL w _ hx109_1)).trans hx109_1
       replace p109 := eq_true p109
       replace q109 := eq_true q109
       go_wp2_with (first | ((with_reducible refine gate_dst (N := 7) rfl ?_); refine box_event ?hg (N := 7) ?hd (cs := #[.int .i64 0, .int .i64 0]) (t := 34) ?hr ?_; (case hd => rfl); (case hg => rfl); (case hr => go_simp; done); intro gb110 hg w16 hbox hb; have n0_ := aMk (qbP HB.out hb); have n1_ := aMk (hbox); have n2_ := aMk ((by rw [hg]; exact (qbZ HB.out) : w.heap.size ≤ gb110)); have n3_ := aMk ((by rw [hg]; exact (qbZ HB.out) : w.heap.size ≤ gb110)); clear HB; have HB := n0_; have BK110 := n1_; have GW110 := n2_; have GE110 := n3_; clear n0_ n1_ n2_ n3_; clear hb hbox hg; have hcz17_0 : w16.cell? ⟨gb110, 0, none⟩ = some (.int .i64 0) := (blk_cell BK110.out 0).trans rfl; have hcz17_1 : w16.cell? ⟨gb110, 1, none⟩ = some (.int .i64 0) := (blk_cell BK110.out 1).trans rfl; have hfz17_0 := qbF BK110.out 0; have hfz17_1 := qbF BK110.out 1))
       go_ret
       exact ⟨rfl, by repeat (first | (with_reducible first | exact HB.out | apply qbA | apply qbN | apply qb1 | refine qbS ?_ GE110.out) | exact HB.out)⟩
     ·rw [if_neg c5] at H
      exact absurd H (by simp)
    ·rw [if_neg c4] at H
     exact absurd H (by simp)
   ·rw [if_neg c3] at H
    have c3b0 := qdF c3
    clear c3
    obtain rfl := qoI H
    go_wp2
    go_ret
    exact ⟨rfl, by repeat (first | (with_reducible first | exact HB.out | apply qbA | apply qbN | apply qb1) | exact HB.out)⟩
def cluster_fits.f (a0_0 : Int) (a0_1 : Int) (a1 : Int) : Option (Bool) := (span_Right.f a0_0 a0_1).bind fun t113 => (if t113 = true then (some (decide (a0_1 ≤ a1))) else (some false))
theorem cluster_fits.calls (a0_0 : Int) (a0_1 : Int) (a1 : Int) (r : Bool) (w : World) (h : cluster_fits.f a0_0 a0_1 a1 = some r) :
 Calls Tryz.prog 248 #[.agg #[.int .i64 a0_0, .int .i64 a0_1], .int .i64 a1] w fun e w' => e = .returned (.bool r) ∧ Below w.heap.size w w' := by
 have hu33 := Tryz.underlying34
 have HB := aMk (qBr w.heap.size w)
 have H : ((span_Right.f a0_0 a0_1).bind fun t113 => (if t113 = true then (some (decide (a0_1 ≤ a1))) else (some false))) = some r := h
 clear h
 replace H := qoB.mp H
 obtain ⟨t113, A30, H⟩ := H
 try dsimp only at H
 have A3 := aMk A30; clear A30
 by_cases c4 : t113 = true
 ·subst c4
  rw [if_pos rfl] at H
  obtain rfl := qoI H
  go_enter Tryz.func248, Tryz.ntmps248
  go_wp2_with (first | ((with_reducible refine gate_dst (N := 2) rfl ?_); refine box_event ?hg (N := 2) ?hd (cs := #[.int .i64 a0_0, .int .i64 a0_1]) (t := 34) ?hr ?_; (case hd => rfl); (case hg => rfl); (case hr => go_simp; done); intro gb112 hg w5 hbox hb; have n0_ := aMk (qbP HB.out hb); have n1_ := aMk (hbox); have n2_ := aMk ((by rw [hg]; exact (qbZ HB.out) : w.heap.size ≤ gb112)); have n3_ := aMk ((by rw [hg]; exact (qbZ HB.out) : w.heap.size ≤ gb112)); clear HB; have HB := n0_; have BK112 := n1_; have GW112 := n2_; have GE112 := n3_; clear n0_ n1_ n2_ n3_; clear hb hbox hg; have hcz6_0 : w5.cell? ⟨gb112, 0, none⟩ = some (.int .i64 a0_0) := (blk_cell BK112.out 0).trans rfl; have hcz6_1 : w5.cell? ⟨gb112, 1, none⟩ = some (.int .i64 a0_1) := (blk_cell BK112.out 1).trans rfl; have hfz6_0 := qbF BK112.out 0; have hfz6_1 := qbF BK112.out 1) | ((with_reducible refine gate_callee (f := 119) rfl ?_); refine goesL_ (some 6) rfl rfl Tryz.func119 (by kernel_rfl) rfl #[.agg #[.int .i64 a0_0, .int .i64 a0_1]] rfl (by (try simp only [lm0, lm1, lm2]); first | done | rfl | (simp only [lm3, lm4]; rfl)) ?_; (with_reducible refine (span_Right.calls a0_0 a0_1 true _ A3.out).mono ?_); rintro e w7 ⟨rfl, hb⟩; refine ⟨_, rfl, ?_⟩; have n0_ := aMk (blk_below (g := gb112) (o := .cells #[.int .i64 a0_0, .int .i64 a0_1] 34 (0, 0)) (by exact BK112.out) hb); have n1_ := aMk (qbP HB.out hb); clear BK112; clear HB; have BK112 := n0_; have HB := n1_; clear n0_ n1_; have hcz8_0 : w7.cell? ⟨gb112, 0, none⟩ = some (.int .i64 a0_0) := (blk_cell BK112.out 0).trans rfl; have hcz8_1 : w7.cell? ⟨gb112, 1, none⟩ = some (.int .i64 a0_1) := (blk_cell BK112.out 1).trans rfl; have hfz8_0 := qbF BK112.out 0; have hfz8_1 := qbF BK112.out 1))
  go_ret
  exact ⟨rfl, by repeat (first | (with_reducible first | exact HB.out | apply qbA | apply qbN | apply qb1 | refine qbS ?_ GE112.out) | exact HB.out)⟩
 ·replace c4 := qbE.mpr c4
  subst c4
  rw [if_neg (show ¬ (false = true) by decide)] at H
  obtain rfl := qoI H
  go_enter Tryz.func248, Tryz.ntmps248
  go_wp2_with (first | ((with_reducible refine gate_dst (N := 2) rfl ?_); refine box_event ?hg (N := 2) ?hd (cs := #[.int .i64 a0_0, .int .i64 a0_1]) (t := 34) ?hr ?_; (case hd => rfl); (case hg => rfl); (case hr => go_simp; done); intro gb112 hg w9 hbox hb; have n0_ := aMk (qbP HB.out hb); have n1_ := aMk (hbox); have n2_ := aMk ((by rw [hg]; exact (qbZ HB.out) : w.heap.size ≤ gb112)); have n3_ := aMk ((by rw [hg]; exact (qbZ HB.out) : w.heap.size ≤ gb112)); clear HB; have HB := n0_; have BK112 := n1_; have GW112 := n2_; have GE112 := n3_; clear n0_ n1_ n2_ n3_; clear hb hbox hg; have hcz10_0 : w9.cell? ⟨gb112, 0, none⟩ = some (.int .i64 a0_0) := (blk_cell BK112.out 0).trans rfl; have hcz10_1 : w9.cell? ⟨gb112, 1, none⟩ = some (.int .i64 a0_1) := (blk_cell BK112.out 1).trans rfl; have hfz10_0 := qbF BK112.out 0; have hfz10_1 := qbF BK112.out 1) | ((with_reducible refine gate_callee (f := 119) rfl ?_); refine goesL_ (some 6) rfl rfl Tryz.func119 (by kernel_rfl) rfl #[.agg #[.int .i64 a0_0, .int .i64 a0_1]] rfl (by (try simp only [lm0, lm1, lm2]); first | done | rfl | (simp only [lm3, lm4]; rfl)) ?_; (with_reducible refine (span_Right.calls a0_0 a0_1 false _ A3.out).mono ?_); rintro e w11 ⟨rfl, hb⟩; refine ⟨_, rfl, ?_⟩; have n0_ := aMk (blk_below (g := gb112) (o := .cells #[.int .i64 a0_0, .int .i64 a0_1] 34 (0, 0)) (by exact BK112.out) hb); have n1_ := aMk (qbP HB.out hb); clear BK112; clear HB; have BK112 := n0_; have HB := n1_; clear n0_ n1_; (try clear hi)))
  go_ret
  exact ⟨rfl, by repeat (first | (with_reducible first | exact HB.out | apply qbA | apply qbN | apply qb1 | refine qbS ?_ GE112.out) | exact HB.out)⟩
def slices_Index_bool_bool.l0 : Nat → List Bool → Bool → Int → Int → Option (Int)
 | 0, _, _, _, _ => none
 | k + 1, x0, x1, x7, x8 => if x8 < x7 then (if 0 ≤ x8 then (if x8 < (x0.length : Int) then (if (x1 == (rdOf false x0 x8)) = true then (some x8) else (slices_Index_bool_bool.l0 k x0 x1 x7 (wrap64 (x8 + 1)))) else (none)) else (none)) else (some (-1))
def slices_Index_bool_bool.f (k : Nat) (l0 : List Bool) (a1 : Bool) : Option (Int) := slices_Index_bool_bool.l0 k l0 a1 (l0.length : Int) 0
theorem slices_Index_bool_bool.calls (k : Nat) (A0 : Option Addr) (c0 : Nat) (l0 : List Bool) (a1 : Bool) (r : Int) (w : World) (hr0 : Kd.C Kd.bool w A0 l0.length l0) (hc0 : l0.length ≤ c0) (h : slices_Index_bool_bool.f k l0 a1 = some r) :
 Calls Tryz.prog 252 #[.slice A0 l0.length c0, .bool a1] w fun e w' => e = .returned (.int .i64 r) ∧ Drawn0 w w' := by
 have HR0 := aMk hr0
 have HC0 := aMk hc0
 clear hr0 hc0
 have H : (slices_Index_bool_bool.l0 k l0 a1 (l0.length : Int) 0) = some r := h
 clear h
 have H' := aMk H
 clear H
 go_enter Tryz.func252, Tryz.ntmps252
 go_wp2
 go_loopg [8] k (fun kq v8 w' => ∃ (x8_1 : Int), v8 = .int .i64 x8_1 ∧ Aside0 (slices_Index_bool_bool.l0 kq l0 a1 (l0.length : Int) x8_1 = some r) ∧ Aside0 (kq ≤ k) ∧ Drawn0 w w')
 case atStart => exact ⟨(0), rfl, H', ⟨qlR _⟩, by repeat (first | exact qDr _ | apply qDs)⟩
 case round =>
  clear H'
  obtain ⟨x8_1, rfl, HA, HK1, ⟨m1, rfl⟩⟩ := hrel
  cases gk with
  | zero => exact absurd HA.out (by simp [slices_Index_bool_bool.l0])
  | succ k1 =>
   have H := HA.out
   clear HA
   simp only [slices_Index_bool_bool.l0] at H
   by_cases c3 : x8_1 < (l0.length : Int)
   ·rw [if_pos c3] at H
    have c3b0 := qdT c3
    clear c3
    by_cases c4 : 0 ≤ x8_1
    ·rw [if_pos c4] at H
     have c4b0 := qdT c4
     clear c4
     by_cases c5 : x8_1 < (l0.length : Int)
     ·rw [if_pos c5] at H
      have c5b0 := qdT c5
      clear c5
      by_cases c6 : (a1 == (rdOf false l0 x8_1)) = true
      ·rw [if_pos c6] at H
       have c6b0 : (a1 == (rdOf false l0 x8_1)) = true := c6
       (try (have c6b1 : decide (a1 = (rdOf false l0 x8_1)) = true := by simpa using c6))
       (try (have c6b2 : (a1 == (rdOf false l0 x8_1)) = true := by simpa using c6))
       clear c6
       obtain rfl := qoI H
       have p126 : 0 ≤ (x8_1 : Int) := qoD (by assumption)
       have q126 : x8_1 < (l0.length : Int) := qoD (by assumption)
       obtain ⟨ad126, e126, hx126_0⟩ := Kd.at_bool HR0.out x8_1 p126 q126
       cases e126
       replace p126 := eq_true p126
       replace q126 := eq_true q126
       go_wp2
       go_ret
       exact ⟨by first | rfl | (simp; done) | (simp [*]; done), by repeat (first | exact qDr _ | apply qDs)⟩
      ·rw [if_neg c6] at H
       have c6b0 : (a1 == (rdOf false l0 x8_1)) = false := by simpa using c6
       (try (have c6b1 : decide (a1 = (rdOf false l0 x8_1)) = false := by simpa using c6))
       (try (have c6b2 : (a1 == (rdOf false l0 x8_1)) = false := by simpa using c6))
       (try (have c6b3 : ¬ (a1 = (rdOf false l0 x8_1)) := by simpa using c6))
       clear c6
       have H' := aMk H
       clear H
       have p126 : 0 ≤ (x8_1 : Int) := qoD (by assumption)
       have q126 : x8_1 < (l0.length : Int) := qoD (by assumption)
       obtain ⟨ad126, e126, hx126_0⟩ := Kd.at_bool HR0.out x8_1 p126 q126
       cases e126
       replace p126 := eq_true p126
       replace q126 := eq_true q126
       go_wp2
       go_roundg k1
       case measure => have := HK1.out; omega
       case rel => exact ⟨(wrap64 (x8_1 + 1)), rfl, H', ⟨by have := HK1.out; omega⟩, by repeat (first | exact qDr _ | apply qDs)⟩
     ·rw [if_neg c5] at H
      exact absurd H (by simp)
    ·rw [if_neg c4] at H
     exact absurd H (by simp)
   ·rw [if_neg c3] at H
    have c3b0 := qdF c3
    clear c3
    obtain rfl := qoI H
    go_wp2
    go_ret
    exact ⟨by first | rfl | (simp; done) | (simp [*]; done), by repeat (first | exact qDr _ | apply qDs)⟩
def cluster_Identity.l0 : Nat → List (S45) → Int → Int → Option ((List (S45)))
 | 0, _, _, _ => none
 | k + 1, x3, x7, x8 => if x8 < x7 then (if x3.length < 4398046511104 then (cluster_Identity.l0 k (x3 ++ [(⟨(⟨x8, wrap64 (x8 + 1)⟩ : S33), (⟨x8, wrap64 (x8 + 1)⟩ : S33)⟩ : S45)]) x7 (wrap64 (x8 + 1))) else (none)) else (some x3)
def cluster_Identity.f (k : Nat) (a0 : Int) : Option ((List (S45))) := cluster_Identity.l0 k ([] : List (S45)) (mx a0 0) 0
theorem cluster_Identity.calls (k : Nat) (a0 : Int) (r : List (S45)) (w : World) (h : cluster_Identity.f k a0 = some r) :
 Calls Tryz.prog 55 #[.int .i64 a0] w fun e w' => ∃ v0_ : Value, e = .returned (v0_) ∧ Kd.R k45 36 w' w.heap.size (fun _ => True) v0_ r ∧ Below w.heap.size w w' := by
 have hu33 := Tryz.underlying34
 have hu45 := Tryz.underlying36
 have HB := aMk (qBr w.heap.size w)
 have H : (cluster_Identity.l0 k ([] : List (S45)) (mx a0 0) 0) = some r := h
 clear h
 obtain ⟨ji2, hji2⟩ : ∃ j_ : Int, (mx a0 0) = j_ := ⟨_, rfl⟩
 replace H : (cluster_Identity.l0 k ([] : List (S45)) ji2 0) = some r := by first | (rw [hji2] at H; exact H) | (simp only [hji2] at H ⊢; exact H)
 (try (have hji2l : 0 ≤ ji2 := by (rw [← hji2]; unfold mx; (repeat' split) <;> omega)))
 (try (have hji2m : 0 ≤ ji2 := by omega))
 have hji2_ : (if a0 < 0 then 0 else a0) = ji2 := hji2
 have H' := aMk H
 clear H
 go_enter Tryz.func55, Tryz.ntmps55
 go_wp2
 go_loopg [3, 8] k (fun kq v3 v8 w' => ∃ (x3_1 : List (S45)) (x8_1 : Int), v8 = .int .i64 x8_1 ∧ Aside0 (cluster_Identity.l0 kq x3_1 ji2 x8_1 = some r) ∧ Aside0 (kq ≤ k) ∧ Aside0 (Kd.R k45 36 w' w.heap.size (fun _ => True) v3 x3_1) ∧ Aside0 (Below w.heap.size w w'))
 case atStart => exact ⟨(([] : List (S45))), (0), rfl, H', ⟨qlR _⟩, ⟨by first | exact Kd.R_nil _ _ _ _ _ | exact Kd.N_nil _ _ _ _ _ | exact Kd.V_nil _ _ _ _ _ | exact Kd.Q_nil _ _ _ _ _ | exact Kd.S_nil _ _ _ _ _⟩, ⟨by repeat (first | (with_reducible first | exact HB.out | apply qbA | apply qbN | apply qb1) | exact HB.out)⟩⟩
 case round =>
  clear H'
  obtain ⟨x3_1, x8_1, rfl, HA, HK1, HO_3, HB⟩ := hrel
  cases gk with
  | zero => exact absurd HA.out (by simp [cluster_Identity.l0])
  | succ k1 =>
   have H := HA.out
   clear HA
   simp only [cluster_Identity.l0] at H
   by_cases c3 : x8_1 < ji2
   ·rw [if_pos c3] at H
    have c3b0 := qdT c3
    clear c3
    by_cases c4 : x3_1.length < 4398046511104
    ·rw [if_pos c4] at H
     have LMc4 := aMk c4; clear c4
     obtain ⟨y137, hy137⟩ : ∃ y_ : List (S45), y_ = (x3_1 ++ [(⟨(⟨x8_1, wrap64 (x8_1 + 1)⟩ : S33), (⟨x8_1, wrap64 (x8_1 + 1)⟩ : S33)⟩ : S45)]) := ⟨_, rfl⟩
     replace H : (cluster_Identity.l0 k1 y137 ji2 (wrap64 (x8_1 + 1))) = some r := by first | (rw [hy137]; with_reducible exact H) | (have H2_ := (qoS _ _).symm.trans H; rw [hy137]; with_reducible exact H2_) | (have H2_ := (qoS _ _).symm.trans H; with_reducible exact H2_) | with_reducible exact H | (rw [hy137]; exact H) | exact H
     have Ny137 := aMk hy137; clear hy137
     have H' := aMk H
     clear H
     go_wp2_with (first | ((with_reducible refine gate_dst (N := 5) rfl ?_); refine box_event ?hg (N := 5) ?hd (cs := #[.int .i64 0, .int .i64 0]) (t := 34) ?hr ?_; (case hd => rfl); (case hg => rfl); (case hr => go_simp; done); intro gb136 hg w5 hbox hb; have n0_ := aMk (qrB HO_3.out hb); have n1_ := aMk (qbP HB.out hb); have n2_ := aMk (hbox); have n3_ := aMk ((by rw [hg]; exact (qbZ HB.out) : w.heap.size ≤ gb136)); have n4_ := aMk ((by rw [hg]; exact (qbZ HB.out) : w.heap.size ≤ gb136)); clear HO_3; clear HB; have HO_3 := n0_; have HB := n1_; have BK136 := n2_; have GW136 := n3_; have GE136 := n4_; clear n0_ n1_ n2_ n3_ n4_; clear hb hbox hg; have hcz6_0 : w5.cell? ⟨gb136, 0, none⟩ = some (.int .i64 0) := (blk_cell BK136.out 0).trans rfl; have hcz6_1 : w5.cell? ⟨gb136, 1, none⟩ = some (.int .i64 0) := (blk_cell BK136.out 1).trans rfl; have hfz6_0 := qbF BK136.out 0; have hfz6_1 := qbF BK136.out 1) | ((with_reducible refine gate_builtin (b := .append) (xs := #[.tmp 15, .tmp 19]) rfl ?_); at_builtin; refine Kd.R_append k45 (w0 := w) w.heap.size rfl (.tmp 15) (.tmp 19) 26 36 (.agg #[(.int .i64 0), (.int .i64 0), (.int .i64 0), (.int .i64 0)]) 32 rfl Tryz.underlying26 info45 rfl (by decide) (by omega) u3 x3_1 (⟨(⟨x8_1, wrap64 (x8_1 + 1)⟩ : S33), (⟨x8_1, wrap64 (x8_1 + 1)⟩ : S33)⟩ : S45) [.int .i64 x8_1, .int .i64 (wrap64 (x8_1 + 1)), .int .i64 x8_1, .int .i64 (wrap64 (x8_1 + 1))] (fun _ => True) (fun _ => False) rfl (by go_simp; done) ?aP (fun _ hk => hk.elim) ?aF ?aO ?aB ?aS ?aL ?_; (case aP => exact k45_mkM _ _ _ (⟨(⟨x8_1, wrap64 (x8_1 + 1)⟩ : S33), (⟨x8_1, wrap64 (x8_1 + 1)⟩ : S33)⟩ : S45)); (case aB => exact (by repeat (first | (with_reducible first | exact HB.out | apply qbA | apply qbN | apply qb1 | refine qbS ?_ GE136.out) | exact HB.out))); (case aF => exact (fun _ _ => trivial)); (case aO => exact (by (with_reducible repeat (first | apply qrA | apply qrN | apply qrD)); exact qrM (Kd.R_far (p := ⟨gb136, 1, none⟩) (Kd.R_far (p := ⟨gb136, 0, none⟩) (Kd.R_types HO_3.out BK136.out (by decide)) (fun _ hk => hk.2) (.int .i64 x8_1)) (fun _ hk => hk.2) (.int .i64 (wrap64 (x8_1 + 1)))) (fun _ hk => trivial))); (case aS => exact (qbZ (by repeat (first | (with_reducible first | exact HB.out | apply qbA | apply qbN | apply qb1 | refine qbS ?_ GE136.out) | exact HB.out)))); (case aL => have := LMc4.out; omega); intro v138 w7 ho hb hg hat; rw [← Ny137.out] at ho; have n0_ := aMk (blk_grown (g := gb136) (o := .cells #[.int .i64 x8_1, .int .i64 (wrap64 (x8_1 + 1))] 34 (0, 0)) (by refine blk_put (cs := #[.int .i64 x8_1, .int .i64 0]) ?_ 1 _ rfl; refine blk_put (cs := #[.int .i64 0, .int .i64 0]) ?_ 0 _ rfl; exact BK136.out) hg (Kd.R_ne HO_3.out BK136.out (by decide))); have n1_ := aMk (hb); have n2_ := aMk (ho); clear BK136; clear HB; clear HO_3; have BK136 := n0_; have HB := n1_; have HO139 := n2_; clear n0_ n1_ n2_; clear ho hb hg hat))
     go_roundg k1
     case measure => have := HK1.out; omega
     case rel => exact ⟨(y137), (wrap64 (x8_1 + 1)), rfl, H', ⟨by have := HK1.out; omega⟩, ⟨by (with_reducible repeat (first | apply qrA | apply qrN | apply qrD)); exact HO139.out⟩, ⟨by repeat (first | (with_reducible first | exact HB.out | apply qbA | apply qbN | apply qb1 | refine qbS ?_ GE136.out) | exact HB.out)⟩⟩
    ·rw [if_neg c4] at H
     exact absurd H (by simp)
   ·rw [if_neg c3] at H
    have c3b0 := qdF c3
    clear c3
    obtain rfl := qoI H
    go_wp2
    go_ret
    exact ⟨_, by first | rfl | (simp [errW_none, errW_some] <;> rfl) | (simp only [← hji2]; first | rfl | (simp [errW_none, errW_some] <;> rfl)) | (simp [*, errW_none, errW_some] <;> rfl), by (with_reducible repeat (first | apply qrA | apply qrN | apply qrD)); exact HO_3.out, by repeat (first | (with_reducible first | exact HB.out | apply qbA | apply qbN | apply qb1) | exact HB.out)⟩
def naskhref03_Right.f (a0_0 : Int) (a0_1 : Int) : Option (Bool) := if a0_0 ≥ 0 then (some (decide (a0_0 < a0_1))) else (some false)
theorem naskhref03_Right.calls (a0_0 : Int) (a0_1 : Int) (r : Bool) (w : World) (h : naskhref03_Right.f a0_0 a0_1 = some r) :
 Calls Tryz.prog 167 #[.agg #[.int .i64 a0_0, .int .i64 a0_1]] w fun e w' => e = .returned (.bool r) ∧ Below w.heap.size w w' := by
 have hu33 := Tryz.underlying34
 have HB := aMk (qBr w.heap.size w)
 have H : (if a0_0 ≥ 0 then (some (decide (a0_0 < a0_1))) else (some false)) = some r := h
 clear h
 by_cases c2 : a0_0 ≥ 0
 ·rw [if_pos c2] at H
  have c2b0 := qdT c2
  clear c2
  obtain rfl := qoI H
  go_enter Tryz.func167, Tryz.ntmps167
  go_wp2_with (first | ((with_reducible refine gate_dst (N := 1) rfl ?_); refine box_event ?hg (N := 1) ?hd (cs := #[.int .i64 a0_0, .int .i64 a0_1]) (t := 34) ?hr ?_; (case hd => rfl); (case hg => rfl); (case hr => go_simp; done); intro gb147 hg w3 hbox hb; have n0_ := aMk (qbP HB.out hb); have n1_ := aMk (hbox); have n2_ := aMk ((by rw [hg]; exact (qbZ HB.out) : w.heap.size ≤ gb147)); have n3_ := aMk ((by rw [hg]; exact (qbZ HB.out) : w.heap.size ≤ gb147)); clear HB; have HB := n0_; have BK147 := n1_; have GW147 := n2_; have GE147 := n3_; clear n0_ n1_ n2_ n3_; clear hb hbox hg; have hcz4_0 : w3.cell? ⟨gb147, 0, none⟩ = some (.int .i64 a0_0) := (blk_cell BK147.out 0).trans rfl; have hcz4_1 : w3.cell? ⟨gb147, 1, none⟩ = some (.int .i64 a0_1) := (blk_cell BK147.out 1).trans rfl; have hfz4_0 := qbF BK147.out 0; have hfz4_1 := qbF BK147.out 1))
  go_ret
  exact ⟨rfl, by repeat (first | (with_reducible first | exact HB.out | apply qbA | apply qbN | apply qb1 | refine qbS ?_ GE147.out) | exact HB.out)⟩
 ·rw [if_neg c2] at H
  have c2b0 := qdF c2
  clear c2
  obtain rfl := qoI H
  go_enter Tryz.func167, Tryz.ntmps167
  go_wp2_with (first | ((with_reducible refine gate_dst (N := 1) rfl ?_); refine box_event ?hg (N := 1) ?hd (cs := #[.int .i64 a0_0, .int .i64 a0_1]) (t := 34) ?hr ?_; (case hd => rfl); (case hg => rfl); (case hr => go_simp; done); intro gb147 hg w5 hbox hb; have n0_ := aMk (qbP HB.out hb); have n1_ := aMk (hbox); have n2_ := aMk ((by rw [hg]; exact (qbZ HB.out) : w.heap.size ≤ gb147)); have n3_ := aMk ((by rw [hg]; exact (qbZ HB.out) : w.heap.size ≤ gb147)); clear HB; have HB := n0_; have BK147 := n1_; have GW147 := n2_; have GE147 := n3_; clear n0_ n1_ n2_ n3_; clear hb hbox hg; have hcz6_0 : w5.cell? ⟨gb147, 0, none⟩ = some (.int .i64 a0_0) := (blk_cell BK147.out 0).trans rfl; have hcz6_1 : w5.cell? ⟨gb147, 1, none⟩ = some (.int .i64 a0_1) := (blk_cell BK147.out 1).trans rfl; have hfz6_0 := qbF BK147.out 0; have hfz6_1 := qbF BK147.out 1))
  go_ret
  exact ⟨rfl, by repeat (first | (with_reducible first | exact HB.out | apply qbA | apply qbN | apply qb1 | refine qbS ?_ GE147.out) | exact HB.out)⟩
end PClusterFinest
end
section
namespace UFinest
abbrev Lab := Nat → Nat
def merge (r : Lab) (a b : Nat) : Lab := fun x => if r x = max (r a) (r b) then min (r a) (r b) else r x
def two (r : Lab) (a b : Nat) : Bool := decide (r a ≠ r b)
theorem merge_eq (r : Lab) (a b : Nat) : merge r a b a = merge r a b b := by
 unfold merge
 by_cases h : r a ≤ r b
 ·rw [Nat.max_eq_right h, Nat.min_eq_left h, if_pos rfl]
  split <;> rfl
 ·rw [Nat.max_eq_left (by omega), Nat.min_eq_right (by omega), if_pos rfl]
  split <;> rfl
theorem merge_keep (r : Lab) (a b x y : Nat) (h : r x = r y) : merge r a b x = merge r a b y := by unfold merge; rw [h]
theorem merge_same (r : Lab) (a b : Nat) (h : r a = r b) : merge r a b = r := by
 funext x
 unfold merge
 rw [h, Nat.max_self, Nat.min_self]
 split
 ·rename_i h1; exact h1.symm
 ·rfl
theorem merge_le (r : Lab) (a b x : Nat) : merge r a b x ≤ r x := by
 unfold merge
 split
 ·rename_i h; rw [h]; omega
 ·exact qlR _
structure Eqv (R : Nat → Nat → Prop) : Prop where
 refl : ∀ x, R x x
 symm : ∀ x y, R x y → R y x
 trans : ∀ x y z, R x y → R y z → R x z
def Sound (R : Nat → Nat → Prop) (r : Lab) : Prop := ∀ x, R x (r x)
theorem Sound.eq {R : Nat → Nat → Prop} {r : Lab} (hR : Eqv R) (h : Sound R r) {x y : Nat} (e : r x = r y) : R x y := hR.trans _ _ _ (h x) (e ▸ hR.symm _ _ (h y))
theorem sound_merge {R : Nat → Nat → Prop} {r : Lab} (hR : Eqv R) (h : Sound R r) {a b : Nat} (hab : R a b) : Sound R (merge r a b) := by
 intro x
 unfold merge
 split
 ·rename_i hx
  have h1 : R (r a) (r b) := hR.trans _ _ _ (hR.symm _ _ (h a)) (hR.trans _ _ _ hab (h b))
  have hxx := h x
  rw [hx] at hxx
  by_cases hle : r a ≤ r b
  ·rw [Nat.max_eq_right hle] at hxx
   rw [Nat.min_eq_left hle]
   exact hR.trans _ _ _ hxx (hR.symm _ _ h1)
  ·rw [Nat.max_eq_left (by omega)] at hxx
   rw [Nat.min_eq_right (by omega)]
   exact hR.trans _ _ _ hxx h1
 ·exact h x
structure Lk where
 a : Nat
 b : Nat
 c : Nat
 d : Nat
def allF (r : Lab) (base : Nat) : Nat → Lab
 | 0 => r
 | k + 1 => merge (allF r base k) base (base + k + 1)
def linkF (n : Nat) (r : Lab) (x : Lk) : Lab := merge (allF (allF r x.a (x.b - x.a - 1)) (n + x.c) (x.d - x.c - 1)) x.a (n + x.c)
def linksF (n : Nat) (r : Lab) (l : List Lk) : Lab := l.foldl (linkF n) r
def linkedB (l : List Lk) (i : Nat) : Bool := l.any fun x => decide (x.a ≤ i) && decide (i < x.b)
def firstF (l : List Lk) (n : Nat) : Nat := (List.range n).findIdx (linkedB l)
def strayF (l : List Lk) (n : Nat) (r : Lab) : Nat → Lab
 | 0 => r
 | k + 1 => let q := strayF l n r k
  if linkedB l k then q else if firstF l n < k then merge q (k - 1) k else merge q k (k + 1)
def lastF (r : Lab) (lo : Nat) : Nat → Nat → Nat
 | 0 => fun _ => 0
 | k + 1 => fun v => if r (lo + k) = v then lo + k else lastF r lo k v
def closeIn (last : Nat → Nat) (i : Nat) : Nat → Nat → Lab → Bool → Lab × Bool
 | 0, _, r, t => (r, t)
 | f + 1, k, r, t => if k ≤ last (r i) then closeIn last i f (k + 1) (merge r i k) (two r i k || t) else (r, t)
def closeTo (last : Nat → Nat) (lo hi : Nat) : Nat → Lab × Bool → Lab × Bool
 | 0, s => s
 | k + 1, s => let q := closeTo last lo hi k s
  closeIn last (lo + k) (hi + 1) (lo + k + 1) q.1 q.2
def closeF (r : Lab) (lo hi : Nat) : Lab × Bool := closeTo (lastF r lo (hi - lo)) lo hi (hi - lo) (r, false)
def roundF (n m : Nat) (r : Lab) : Lab × Bool :=
 let q := closeF r 0 n
 let p := closeF q.1 n (n + m)
 (p.1, q.2 || p.2)
def roundsF (n m : Nat) : Nat → Lab → Lab
 | 0, r => r
 | f + 1, r => let q := roundF n m r
  if q.2 then roundsF n m f q.1 else q.1
structure Closed (n m : Nat) (l : List Lk) (R : Nat → Nat → Prop) : Prop where
 eqv : Eqv R
 ins : ∀ x ∈ l, ∀ i, x.a ≤ i → i < x.b → R x.a i
 outs : ∀ x ∈ l, ∀ i, x.c ≤ i → i < x.d → R (n + x.c) (n + i)
 both : ∀ x ∈ l, R x.a (n + x.c)
 stray : ∀ i, 0 < i → i < n → linkedB l i = false → R (i - 1) i
 ahead : ∀ i, i < firstF l n → firstF l n < n → R i (i + 1)
 conv1 : ∀ i j k, i ≤ j → j ≤ k → k < n → R i k → R i j
 conv2 : ∀ i j k, n ≤ i → i ≤ j → j ≤ k → k < n + m → R i k → R i j
theorem sound_allF {R : Nat → Nat → Prop} (hR : Eqv R) {r : Lab} (h : Sound R r) (base k : Nat) (hj : ∀ i, base ≤ i → i ≤ base + k → R base i) : Sound R (allF r base k) := by
 induction k with
 | zero => exact h
 | succ k ih => exact sound_merge hR (ih fun i h1 h2 => hj i h1 (by omega)) (hj _ (by omega) (by omega))
theorem allF_eq (r : Lab) (base k : Nat) : ∀ i, base ≤ i → i ≤ base + k → allF r base k base = allF r base k i := by
 induction k with
 | zero => intro i h1 h2; rw [show i = base by omega]
 | succ k ih =>
  intro i h1 h2
  unfold allF
  by_cases hi : i = base + k + 1
  ·rw [hi]; exact merge_eq _ _ _
  ·exact merge_keep _ _ _ _ _ (ih i h1 (by omega))
theorem allF_keep (r : Lab) (base k x y : Nat) (h : r x = r y) : allF r base k x = allF r base k y := by
 induction k with
 | zero => exact h
 | succ k ih => exact merge_keep _ _ _ _ _ ih
theorem linkF_keep (n : Nat) (r : Lab) (z : Lk) (x y : Nat) (h : r x = r y) : linkF n r z x = linkF n r z y := merge_keep _ _ _ _ _ (allF_keep _ _ _ _ _ (allF_keep _ _ _ _ _ h))
theorem linksF_keep (n : Nat) (l : List Lk) : ∀ (r : Lab) (x y : Nat), r x = r y → linksF n r l x = linksF n r l y := by
 induction l with
 | nil => intro r x y h; exact h
 | cons z t ih => intro r x y h; exact ih _ _ _ (linkF_keep n r z x y h)
theorem sound_linksF {n m : Nat} {l0 : List Lk} {R : Nat → Nat → Prop} (hR : Closed n m l0 R) (l : List Lk) (hl : ∀ x ∈ l, x ∈ l0) (hw : ∀ x ∈ l, x.a < x.b ∧ x.c < x.d) : ∀ r, Sound R r → Sound R (linksF n r l) := by
 induction l with
 | nil => intro r h; exact h
 | cons z t ih =>
  intro r h
  have hz := hl z List.mem_cons_self
  have hzw := hw z List.mem_cons_self
  refine ih (fun x hx => hl x (List.mem_cons_of_mem _ hx)) (fun x hx => hw x (List.mem_cons_of_mem _ hx)) _ ?_
  refine sound_merge hR.eqv (sound_allF hR.eqv (sound_allF hR.eqv h _ _ ?_) _ _ ?_) (hR.both z hz)
  ·intro i h1 h2; exact hR.ins z hz i h1 (by omega)
  ·intro i h1 h2
   have := hR.outs z hz (i - n) (by omega) (by omega)
   rwa [show n + (i - n) = i by omega] at this
theorem linkF_ins (n : Nat) (r : Lab) (z : Lk) (hz : z.a < z.b) (i : Nat) (h1 : z.a ≤ i) (h2 : i < z.b) : linkF n r z z.a = linkF n r z i := merge_keep _ _ _ _ _ (allF_keep _ _ _ _ _ (allF_eq _ _ _ i h1 (by omega)))
theorem linkF_outs (n : Nat) (r : Lab) (z : Lk) (hz : z.c < z.d) (i : Nat) (h1 : z.c ≤ i) (h2 : i < z.d) : linkF n r z (n + z.c) = linkF n r z (n + i) := merge_keep _ _ _ _ _ (allF_eq _ _ _ (n + i) (by omega) (by omega))
theorem linkF_both (n : Nat) (r : Lab) (z : Lk) : linkF n r z z.a = linkF n r z (n + z.c) := merge_eq _ _ _
theorem linksF_all (n : Nat) (l : List Lk) (hw : ∀ x ∈ l, x.a < x.b ∧ x.c < x.d) : ∀ r, ∀ z ∈ l, (∀ i, z.a ≤ i → i < z.b → linksF n r l z.a = linksF n r l i) ∧ (∀ i, z.c ≤ i → i < z.d → linksF n r l (n + z.c) = linksF n r l (n + i)) ∧ linksF n r l z.a = linksF n r l (n + z.c) := by
 induction l with
 | nil => intro r z h; simp at h
 | cons y t ih =>
  intro r z hz
  rcases List.mem_cons.1 hz with rfl | hz
  ·have := hw z List.mem_cons_self
   exact ⟨fun i h1 h2 => linksF_keep n t _ _ _ (linkF_ins n r z this.1 i h1 h2), fun i h1 h2 => linksF_keep n t _ _ _ (linkF_outs n r z this.2 i h1 h2), linksF_keep n t _ _ _ (linkF_both n r z)⟩
  ·exact ih (fun x hx => hw x (List.mem_cons_of_mem _ hx)) _ z hz
theorem strayF_keep (l : List Lk) (n : Nat) (r : Lab) (k x y : Nat) (h : r x = r y) : strayF l n r k x = strayF l n r k y := by
 induction k with
 | zero => exact h
 | succ k ih =>
  unfold strayF
  dsimp only
  split
  ·exact ih
  ·split <;> exact merge_keep _ _ _ _ _ ih
theorem strayF_more (l : List Lk) (n : Nat) (r : Lab) (k x y : Nat) (h : strayF l n r k x = strayF l n r k y) : ∀ d, strayF l n r (k + d) x = strayF l n r (k + d) y := by
 intro d
 induction d with
 | zero => exact h
 | succ d ih =>
  rw [show k + (d + 1) = (k + d) + 1 by omega]
  unfold strayF
  dsimp only
  split
  ·exact ih
  ·split <;> exact merge_keep _ _ _ _ _ ih
theorem first_linked (l : List Lk) (n : Nat) (h : firstF l n < n) : linkedB l (firstF l n) = true := by
 unfold firstF at h ⊢
 have := List.findIdx_getElem (xs := List.range n) (p := linkedB l) (w := by simpa using h)
 simpa using this
theorem first_least (l : List Lk) (n i : Nat) (h : i < firstF l n) (hn : firstF l n ≤ n) : linkedB l i = false := by
 unfold firstF at h hn
 have := List.not_of_lt_findIdx (xs := List.range n) (p := linkedB l) h
 simpa using this
theorem first_le (l : List Lk) (n : Nat) : firstF l n ≤ n := by
 unfold firstF
 have := List.findIdx_le_length (xs := List.range n) (p := linkedB l)
 simpa using this
theorem sound_stray {n m : Nat} {l : List Lk} {R : Nat → Nat → Prop} (hR : Closed n m l R) (hf : firstF l n < n) (k : Nat) (hk : k ≤ n) : ∀ r, Sound R r → Sound R (strayF l n r k) := by
 induction k with
 | zero => intro r h; exact h
 | succ k ih =>
  intro r h
  have ih' := ih (by omega) r h
  unfold strayF
  dsimp only
  split
  ·exact ih'
  ·rename_i hl
   split
   ·rename_i h1
    exact sound_merge hR.eqv ih' (hR.stray k (by omega) (by omega) (by simpa using hl))
   ·rename_i h1
    have : k ≠ firstF l n := fun e => hl (by rw [e]; exact first_linked l n hf)
    exact sound_merge hR.eqv ih' (hR.ahead k (by omega) hf)
theorem stray_behind (l : List Lk) (n : Nat) (r : Lab) (i : Nat) (h0 : firstF l n < i) (hn : i < n) (hl : linkedB l i = false) : strayF l n r n (i - 1) = strayF l n r n i := by
 have h : strayF l n r (i + 1) (i - 1) = strayF l n r (i + 1) i := by
  unfold strayF
  dsimp only
  rw [hl, if_neg (by simp), if_pos h0]
  exact merge_eq _ _ _
 have := strayF_more l n r (i + 1) _ _ h (n - (i + 1))
 rwa [show i + 1 + (n - (i + 1)) = n by omega] at this
theorem stray_ahead (l : List Lk) (n : Nat) (r : Lab) (i : Nat) (h0 : i < firstF l n) : strayF l n r n i = strayF l n r n (i + 1) := by
 have hn := first_le l n
 have h : strayF l n r (i + 1) i = strayF l n r (i + 1) (i + 1) := by
  unfold strayF
  dsimp only
  rw [first_least l n i h0 hn, if_neg (by simp), if_neg (by omega)]
  exact merge_eq _ _ _
 have := strayF_more l n r (i + 1) _ _ h (n - (i + 1))
 rwa [show i + 1 + (n - (i + 1)) = n by omega] at this
theorem lastF_or (r : Lab) (lo : Nat) (k : Nat) (v : Nat) : lastF r lo k v = 0 ∨ (lo ≤ lastF r lo k v ∧ lastF r lo k v < lo + k ∧ r (lastF r lo k v) = v) := by
 induction k with
 | zero => exact .inl rfl
 | succ k ih =>
  unfold lastF
  split
  ·rename_i h; exact .inr ⟨by omega, by omega, h⟩
  ·rcases ih with h | ⟨h1, h2, h3⟩
   ·exact .inl h
   ·exact .inr ⟨h1, by omega, h3⟩
theorem lastF_ge (r : Lab) (lo : Nat) (k : Nat) (j : Nat) (h1 : lo ≤ j) (h2 : j < lo + k) : j ≤ lastF r lo k (r j) := by
 induction k with
 | zero => omega
 | succ k ih =>
  unfold lastF
  split
  ·omega
  ·rename_i h
   by_cases hj : j = lo + k
   ·subst hj; exact absurd rfl h
   ·exact ih (by omega)
theorem lastF_lt (r : Lab) (lo hi : Nat) (h : lo < hi) (v : Nat) : lastF r lo (hi - lo) v < hi := by
 rcases lastF_or r lo (hi - lo) v with h1 | ⟨_, h1, _⟩ <;> omega
def Between (R : Nat → Nat → Prop) (lo hi : Nat) : Prop := ∀ i j k, lo ≤ i → i ≤ j → j ≤ k → k < hi → R i k → R i j
def LastOk (R : Nat → Nat → Prop) (lo hi : Nat) (last : Nat → Nat) : Prop := ∀ v, last v = 0 ∨ (lo ≤ last v ∧ last v < hi ∧ R v (last v))
theorem sound_closeIn {R : Nat → Nat → Prop} (hR : Eqv R) {lo hi : Nat} (hb : Between R lo hi) {last : Nat → Nat} (hl : LastOk R lo hi last) (i : Nat) (hi0 : lo ≤ i) (f : Nat) : ∀ (k : Nat) (r : Lab) (t : Bool), i < k → Sound R r → Sound R (closeIn last i f k r t).1 := by
 induction f with
 | zero => intro k r t _ h; exact h
 | succ f ih =>
  intro k r t hk h
  unfold closeIn
  split
  ·rename_i hle
   refine ih _ _ _ (by omega) (sound_merge hR h ?_)
   rcases hl (r i) with h0 | ⟨h1, h2, h3⟩
   ·omega
   ·exact hb i k (last (r i)) hi0 (by omega) hle h2 (hR.trans _ _ _ (h i) h3)
  ·exact h
theorem sound_closeTo {R : Nat → Nat → Prop} (hR : Eqv R) {lo hi : Nat} (hb : Between R lo hi) {last : Nat → Nat} (hl : LastOk R lo hi last) (k : Nat) (s : Lab × Bool) (h : Sound R s.1) : Sound R (closeTo last lo hi k s).1 := by
 induction k with
 | zero => exact h
 | succ k ih =>
  unfold closeTo
  exact sound_closeIn hR hb hl (lo + k) (by omega) (hi + 1) _ _ _ (by omega) ih
theorem sound_closeF {R : Nat → Nat → Prop} (hR : Eqv R) {lo hi : Nat} (hb : Between R lo hi) {r : Lab} (h : Sound R r) : Sound R (closeF r lo hi).1 := by
 refine sound_closeTo hR hb (fun v => ?_) _ _ h
 rcases lastF_or r lo (hi - lo) v with h1 | ⟨h1, h2, h3⟩
 ·exact .inl h1
 ·refine .inr ⟨h1, by omega, ?_⟩
  have := h (lastF r lo (hi - lo) v)
  rw [h3] at this
  exact hR.symm _ _ this
theorem closeIn_false (last : Nat → Nat) (i : Nat) (f : Nat) : ∀ (k : Nat) (r : Lab) (t : Bool), (closeIn last i f k r t).2 = false → t = false ∧ (closeIn last i f k r t).1 = r ∧ ∀ j, k ≤ j → j ≤ last (r i) → j < k + f → r i = r j := by
 induction f with
 | zero => intro k r t h; exact ⟨h, rfl, fun j h1 _ h2 => by omega⟩
 | succ f ih =>
  intro k r t h
  unfold closeIn at h ⊢
  split
  ·rename_i hle
   rw [if_pos hle] at h
   obtain ⟨h1, h2, h3⟩ := ih _ _ _ h
   rw [Bool.or_eq_false_iff] at h1
   have he : r i = r k := by
    have := h1.1
    unfold two at this
    simpa using this
   have hm := merge_same r i k he
   rw [hm] at h2 h3 ⊢
   refine ⟨h1.2, h2, fun j ha hb hc => ?_⟩
   by_cases hj : j = k
   ·rw [hj]; exact he
   ·exact h3 j (by omega) hb (by omega)
  ·rename_i hle
   rw [if_neg hle] at h
   exact ⟨h, rfl, fun j ha hb hc => by omega⟩
theorem closeTo_false (last : Nat → Nat) (lo hi : Nat) (k : Nat) (s : Lab × Bool) : (closeTo last lo hi k s).2 = false → s.2 = false ∧ (closeTo last lo hi k s).1 = s.1 ∧ ∀ i j, lo ≤ i → i < lo + k → i < j → j ≤ last (s.1 i) → j < hi → s.1 i = s.1 j := by
 induction k with
 | zero => intro h; exact ⟨h, rfl, fun i j h1 h2 => by omega⟩
 | succ k ih =>
  intro h
  unfold closeTo at h ⊢
  dsimp only at h ⊢
  obtain ⟨h1, h2, h3⟩ := closeIn_false _ _ _ _ _ _ h
  obtain ⟨g1, g2, g3⟩ := ih h1
  refine ⟨g1, by rw [h2, g2], fun i j ha hb hc hd he => ?_⟩
  by_cases hi' : i = lo + k
  ·subst hi'
   rw [g2] at h3
   exact h3 j (by omega) hd (by omega)
  ·exact g3 i j ha (by omega) hc hd he
theorem closeF_false (r : Lab) (lo hi : Nat) (h : (closeF r lo hi).2 = false) : (closeF r lo hi).1 = r ∧ Between (fun x y => r x = r y) lo hi := by
 unfold closeF at h ⊢
 obtain ⟨_, h2, h3⟩ := closeTo_false _ _ _ _ _ h
 refine ⟨h2, fun i j k h0 h1 hjk hk he => ?_⟩
 by_cases hij : i = j
 ·rw [hij]
 ·have hlt : lo < hi := by omega
  have := lastF_ge r lo (hi - lo) k (by omega) (by omega)
  dsimp only at he
  rw [← he] at this
  exact h3 i j h0 (by omega) (by omega) (by show j ≤ lastF r lo (hi - lo) (r i); omega) (by omega)
theorem roundF_false (n m : Nat) (r : Lab) (h : (roundF n m r).2 = false) : (roundF n m r).1 = r ∧ Between (fun x y => r x = r y) 0 n ∧ Between (fun x y => r x = r y) n (n + m) := by
 unfold roundF at h ⊢
 dsimp only at h ⊢
 rw [Bool.or_eq_false_iff] at h
 obtain ⟨h1, h2⟩ := closeF_false _ _ _ h.1
 rw [h1] at h ⊢
 obtain ⟨h3, h4⟩ := closeF_false _ _ _ h.2
 exact ⟨h3, h2, h4⟩
theorem closeIn_keep (last : Nat → Nat) (i : Nat) (f : Nat) : ∀ (k : Nat) (r : Lab) (t : Bool) (x y : Nat), r x = r y → (closeIn last i f k r t).1 x = (closeIn last i f k r t).1 y := by
 induction f with
 | zero => intro k r t x y h; exact h
 | succ f ih =>
  intro k r t x y h
  unfold closeIn
  split
  ·exact ih _ _ _ _ _ (merge_keep _ _ _ _ _ h)
  ·exact h
theorem closeTo_keep (last : Nat → Nat) (lo hi k : Nat) (s : Lab × Bool) (x y : Nat) (h : s.1 x = s.1 y) : (closeTo last lo hi k s).1 x = (closeTo last lo hi k s).1 y := by
 induction k with
 | zero => exact h
 | succ k ih => unfold closeTo; exact closeIn_keep _ _ _ _ _ _ _ _ ih
theorem roundF_keep (n m : Nat) (r : Lab) (x y : Nat) (h : r x = r y) : (roundF n m r).1 x = (roundF n m r).1 y := by
 unfold roundF closeF
 exact closeTo_keep _ _ _ _ _ _ _ (closeTo_keep _ _ _ _ _ _ _ h)
theorem roundsF_keep (n m : Nat) (f : Nat) : ∀ (r : Lab) (x y : Nat), r x = r y → roundsF n m f r x = roundsF n m f r y := by
 induction f with
 | zero => intro r x y h; exact h
 | succ f ih =>
  intro r x y h
  unfold roundsF
  dsimp only
  split
  ·exact ih _ _ _ (roundF_keep n m r x y h)
  ·exact roundF_keep n m r x y h
theorem sound_roundF {n m : Nat} {l : List Lk} {R : Nat → Nat → Prop} (hR : Closed n m l R) {r : Lab} (h : Sound R r) : Sound R (roundF n m r).1 :=
 sound_closeF hR.eqv (fun i j k h0 h1 h2 h3 h4 => hR.conv2 i j k h0 h1 h2 h3 h4) (sound_closeF hR.eqv (fun i j k h0 h1 h2 h3 h4 => hR.conv1 i j k h1 h2 h3 h4) h)
theorem sound_roundsF {n m : Nat} {l : List Lk} {R : Nat → Nat → Prop} (hR : Closed n m l R) (f : Nat) : ∀ (r : Lab), Sound R r → Sound R (roundsF n m f r) := by
 induction f with
 | zero => intro r h; exact h
 | succ f ih =>
  intro r h
  unfold roundsF
  dsimp only
  split
  ·exact ih _ (sound_roundF hR h)
  ·exact sound_roundF hR h
def sumL (r : Lab) : Nat → Nat
 | 0 => 0
 | N + 1 => sumL r N + r N
theorem sumL_le {r q : Lab} (h : ∀ x, q x ≤ r x) (N : Nat) : sumL q N ≤ sumL r N := by
 induction N with
 | zero => exact qlR _
 | succ N ih => unfold sumL; have := h N; omega
theorem sumL_lt {r q : Lab} (h : ∀ x, q x ≤ r x) (N x : Nat) (hx : x < N) (hl : q x < r x) : sumL q N < sumL r N := by
 induction N with
 | zero => omega
 | succ N ih =>
  unfold sumL
  have h1 := h N
  by_cases hxn : x = N
  ·subst hxn; have := sumL_le h x; omega
  ·have := ih (by omega); omega
theorem two_lt (r : Lab) (a b N : Nat) (ha : a < N) (hb : b < N) (h : two r a b = true) : sumL (merge r a b) N < sumL r N := by
 unfold two at h
 have hne : r a ≠ r b := by simpa using h
 by_cases hle : r a ≤ r b
 ·refine sumL_lt (merge_le r a b) N b hb ?_
  unfold merge
  rw [if_pos (by omega)]; omega
 ·refine sumL_lt (merge_le r a b) N a ha ?_
  unfold merge
  rw [if_pos (by omega)]; omega
theorem closeIn_sum (last : Nat → Nat) (i N : Nat) (hi : i < N) (hl : ∀ v, last v < N) (f : Nat) : ∀ (k : Nat) (r : Lab) (t : Bool), sumL (closeIn last i f k r t).1 N ≤ sumL r N ∧ ((closeIn last i f k r t).2 = true → t = true ∨ sumL (closeIn last i f k r t).1 N < sumL r N) := by
 induction f with
 | zero => intro k r t; exact ⟨qlR _, fun h => .inl h⟩
 | succ f ih =>
  intro k r t
  unfold closeIn
  split
  ·rename_i hle
   obtain ⟨h1, h2⟩ := ih (k + 1) (merge r i k) (two r i k || t)
   have hm := sumL_le (merge_le r i k) N
   refine ⟨qlT h1 hm, fun h => ?_⟩
   rcases h2 h with h3 | h3
   ·rw [Bool.or_eq_true] at h3
    rcases h3 with h3 | h3
    ·have := two_lt r i k N hi (by have := hl (r i); omega) h3
     exact .inr (by omega)
    ·exact .inl h3
   ·exact .inr (by omega)
  ·exact ⟨qlR _, fun h => .inl h⟩
theorem closeTo_sum (last : Nat → Nat) (lo hi N : Nat) (hN : hi ≤ N) (hl : ∀ v, last v < N) (k : Nat) (hk : lo + k ≤ hi) (s : Lab × Bool) : sumL (closeTo last lo hi k s).1 N ≤ sumL s.1 N ∧ ((closeTo last lo hi k s).2 = true → s.2 = true ∨ sumL (closeTo last lo hi k s).1 N < sumL s.1 N) := by
 induction k with
 | zero => exact ⟨qlR _, fun h => .inl h⟩
 | succ k ih =>
  unfold closeTo
  dsimp only
  obtain ⟨h1, h2⟩ := ih (by omega)
  obtain ⟨g1, g2⟩ := closeIn_sum last (lo + k) N (by omega) hl (hi + 1) (lo + k + 1) (closeTo last lo hi k s).1 (closeTo last lo hi k s).2
  refine ⟨by omega, fun h => ?_⟩
  rcases g2 h with h3 | h3
  ·rcases h2 h3 with h4 | h4
   ·exact .inl h4
   ·exact .inr (by omega)
  ·exact .inr (by omega)
theorem closeF_sum (r : Lab) (lo hi N : Nat) (h : lo < hi) (hN : hi ≤ N) : sumL (closeF r lo hi).1 N ≤ sumL r N ∧ ((closeF r lo hi).2 = true → sumL (closeF r lo hi).1 N < sumL r N) := by
 unfold closeF
 obtain ⟨h1, h2⟩ := closeTo_sum (lastF r lo (hi - lo)) lo hi N hN (fun v => by have := lastF_lt r lo hi h v; omega) (hi - lo) (by omega) (r, false)
 exact ⟨h1, fun h => (h2 h).resolve_left (by simp)⟩
theorem roundF_sum (n m : Nat) (hn : 0 < n) (hm : 0 < m) (r : Lab) : sumL (roundF n m r).1 (n + m) ≤ sumL r (n + m) ∧ ((roundF n m r).2 = true → sumL (roundF n m r).1 (n + m) < sumL r (n + m)) := by
 unfold roundF
 dsimp only
 obtain ⟨h1, h2⟩ := closeF_sum r 0 n (n + m) hn (by omega)
 obtain ⟨h3, h4⟩ := closeF_sum (closeF r 0 n).1 n (n + m) (n + m) (by omega) (qlR _)
 refine ⟨by omega, fun h => ?_⟩
 rw [Bool.or_eq_true] at h
 rcases h with h | h
 ·have := h2 h; omega
 ·have := h4 h; omega
def endF (n m : Nat) (r : Lab) : Lab := roundsF n m (sumL r (n + m) + 1) r
theorem rounds_fuel (n m : Nat) (hn : 0 < n) (hm : 0 < m) (s : Nat) : ∀ (r : Lab) (f g : Nat), sumL r (n + m) ≤ s → sumL r (n + m) < f → sumL r (n + m) < g → roundsF n m f r = roundsF n m g r := by
 induction s with
 | zero =>
  intro r f g h hf hg
  obtain ⟨f, rfl⟩ : ∃ x, f = x + 1 := ⟨f - 1, by omega⟩
  obtain ⟨g, rfl⟩ : ∃ x, g = x + 1 := ⟨g - 1, by omega⟩
  unfold roundsF
  dsimp only
  have := (roundF_sum n m hn hm r).2
  split
  ·rename_i h2; have := this h2; omega
  ·rfl
 | succ s ih =>
  intro r f g h hf hg
  obtain ⟨f, rfl⟩ : ∃ x, f = x + 1 := ⟨f - 1, by omega⟩
  obtain ⟨g, rfl⟩ : ∃ x, g = x + 1 := ⟨g - 1, by omega⟩
  unfold roundsF
  dsimp only
  have := (roundF_sum n m hn hm r).2
  split
  ·rename_i h2
   have := this h2
   exact ih _ _ _ (by omega) (by omega) (by omega)
  ·rfl
theorem endF_step (n m : Nat) (hn : 0 < n) (hm : 0 < m) (r : Lab) : endF n m r = if (roundF n m r).2 then endF n m (roundF n m r).1 else (roundF n m r).1 := by
 conv => lhs; unfold endF
 unfold roundsF
 dsimp only
 split
 ·rename_i h
  have := (roundF_sum n m hn hm r).2 h
  exact rounds_fuel n m hn hm _ _ _ _ (qlR _) this (by omega)
 ·rfl
theorem endF_end (n m : Nat) (hn : 0 < n) (hm : 0 < m) (s : Nat) : ∀ r : Lab, sumL r (n + m) ≤ s → Between (fun x y => endF n m r x = endF n m r y) 0 n ∧ Between (fun x y => endF n m r x = endF n m r y) n (n + m) := by
 induction s with
 | zero =>
  intro r h
  rw [endF_step n m hn hm r]
  split
  ·rename_i h2; have := (roundF_sum n m hn hm r).2 h2; omega
  ·rename_i h2
   obtain ⟨h3, h4⟩ := roundF_false n m r (by simpa using h2)
   rw [h3]; exact h4
 | succ s ih =>
  intro r h
  rw [endF_step n m hn hm r]
  split
  ·rename_i h2
   have := (roundF_sum n m hn hm r).2 h2
   exact ih _ (by omega)
  ·rename_i h2
   obtain ⟨h3, h4⟩ := roundF_false n m r (by simpa using h2)
   rw [h3]; exact h4
theorem endF_keep (n m : Nat) (r : Lab) (x y : Nat) (h : r x = r y) : endF n m r x = endF n m r y := roundsF_keep n m _ r x y h
def idL : Lab := fun x => x
def finL (n m : Nat) (l : List Lk) : Lab := endF n m (strayF l n (linksF n idL l) n)
theorem finL_sound {n m : Nat} {l : List Lk} {R : Nat → Nat → Prop} (hR : Closed n m l R) (hw : ∀ x ∈ l, x.a < x.b ∧ x.c < x.d) (hf : firstF l n < n) : Sound R (finL n m l) :=
 sound_roundsF hR _ _ (sound_stray hR hf n (qlR _) _ (sound_linksF hR l (fun _ h => h) hw _ (fun x => hR.eqv.refl x)))
theorem finL_closed {n m : Nat} {l : List Lk} (hn : 0 < n) (hm : 0 < m) (hw : ∀ x ∈ l, x.a < x.b ∧ x.c < x.d) (hf : firstF l n < n) : Closed n m l (fun x y => finL n m l x = finL n m l y) where
 eqv := ⟨fun _ => rfl, fun _ _ h => h.symm, fun _ _ _ h k => h.trans k⟩
 ins := fun x hx i h1 h2 => endF_keep _ _ _ _ _ (strayF_keep _ _ _ _ _ _ ((linksF_all n l hw idL x hx).1 i h1 h2))
 outs := fun x hx i h1 h2 => endF_keep _ _ _ _ _ (strayF_keep _ _ _ _ _ _ ((linksF_all n l hw idL x hx).2.1 i h1 h2))
 both := fun x hx => endF_keep _ _ _ _ _ (strayF_keep _ _ _ _ _ _ (linksF_all n l hw idL x hx).2.2)
 stray := fun i h0 hi hl => by
  by_cases hif : firstF l n < i
  ·exact endF_keep _ _ _ _ _ (stray_behind l n _ i hif hi hl)
  ·have hne : i ≠ firstF l n := fun e => by
    have := first_linked l n hf
    rw [← e, hl] at this
    cases this
   have := stray_ahead l n (linksF n idL l) (i - 1) (by omega)
   rw [show i - 1 + 1 = i by omega] at this
   exact endF_keep _ _ _ _ _ this
 ahead := fun i hi _ => endF_keep _ _ _ _ _ (stray_ahead l n _ i hi)
 conv1 := fun i j k h1 h2 h3 h4 => (endF_end n m hn hm _ _ (qlR _)).1 i j k (Nat.zero_le _) h1 h2 h3 h4
 conv2 := fun i j k h0 h1 h2 h3 h4 => (endF_end n m hn hm _ _ (qlR _)).2 i j k h0 h1 h2 h3 h4
theorem same_sets {n m : Nat} {l : List Lk} {r q : Lab} (hr : ∀ R, Closed n m l R → Sound R r) (hq : ∀ R, Closed n m l R → Sound R q) (cr : Closed n m l (fun x y => r x = r y)) (cq : Closed n m l (fun x y => q x = q y)) (x y : Nat) : r x = r y ↔ q x = q y :=
 ⟨fun h => (hr _ cq).eq cq.eqv h, fun h => (hq _ cr).eq cr.eqv h⟩
end UFinest
namespace UFinest
def setL (L : Lab) (lo hi v : Nat) : Lab := fun x => if lo ≤ x ∧ x < hi then v else L x
def chg (L : Lab) (lo : Nat) (v : Nat) : Nat → Bool
 | 0 => false
 | k + 1 => chg L lo v k || decide (L (lo + k) ≠ v)
def leastL (L : Lab) (lo : Nat) : Nat → Nat
 | 0 => L lo
 | k + 1 => min (leastL L lo k) (L (lo + k))
theorem chg_false (L : Lab) (lo v k : Nat) (h : chg L lo v k = false) : ∀ x, lo ≤ x → x < lo + k → L x = v := by
 induction k with
 | zero => intro x h1 h2; omega
 | succ k ih =>
  intro x h1 h2
  unfold chg at h
  rw [Bool.or_eq_false_iff] at h
  by_cases hx : x = lo + k
  ·subst hx; simpa using h.2
  ·exact ih h.1 x h1 (by omega)
theorem chg_true (L : Lab) (lo v k : Nat) (h : chg L lo v k = true) : ∃ x, lo ≤ x ∧ x < lo + k ∧ L x ≠ v := by
 induction k with
 | zero => cases h
 | succ k ih =>
  unfold chg at h
  rw [Bool.or_eq_true] at h
  rcases h with h | h
  ·obtain ⟨x, h1, h2, h3⟩ := ih h; exact ⟨x, h1, by omega, h3⟩
  ·exact ⟨lo + k, by omega, by omega, by simpa using h⟩
theorem leastL_le (L : Lab) (lo k : Nat) : ∀ x, lo ≤ x → x < lo + k → leastL L lo k ≤ L x := by
 induction k with
 | zero => intro x h1 h2; omega
 | succ k ih =>
  intro x h1 h2
  unfold leastL
  by_cases hx : x = lo + k
  ·subst hx; omega
  ·have := ih x h1 (by omega); omega
theorem leastL_is (L : Lab) (lo k : Nat) (hk : 0 < k) : ∃ y, lo ≤ y ∧ y < lo + k ∧ leastL L lo k = L y := by
 have gen : ∀ k, ∃ y, lo ≤ y ∧ (y < lo + k ∨ (y = lo)) ∧ leastL L lo k = L y := by
  intro k
  induction k with
  | zero => exact ⟨lo, qlR _, .inr rfl, rfl⟩
  | succ k ih =>
   obtain ⟨y, h1, h2, h3⟩ := ih
   unfold leastL
   by_cases h : L (lo + k) ≤ leastL L lo k
   ·exact ⟨lo + k, by omega, .inl (by omega), by omega⟩
   ·exact ⟨y, h1, h2.imp (fun h => by omega) id, by omega⟩
 obtain ⟨y, h1, h2, h3⟩ := gen k
 exact ⟨y, h1, by omega, h3⟩
theorem setL_same (L : Lab) (lo hi v : Nat) (h : ∀ x, lo ≤ x → x < hi → L x = v) : setL L lo hi v = L := by
 funext x
 unfold setL
 split
 ·rename_i hx; exact (h x hx.1 hx.2).symm
 ·rfl
theorem setL_le (L : Lab) (lo hi v : Nat) (h : ∀ x, lo ≤ x → x < hi → v ≤ L x) (x : Nat) : setL L lo hi v x ≤ L x := by
 unfold setL
 split
 ·rename_i hx; exact h x hx.1 hx.2
 ·exact qlR _
theorem sound_setL {R : Nat → Nat → Prop} {L : Lab} (h : Sound R L) (lo hi v : Nat) (hv : ∀ x, lo ≤ x → x < hi → R x v) : Sound R (setL L lo hi v) := by
 intro x
 unfold setL
 split
 ·rename_i hx; exact hv x hx.1 hx.2
 ·exact h x
theorem chg_lt (L : Lab) (lo v k N : Nat) (hN : lo + k ≤ N) (hv : ∀ x, lo ≤ x → x < lo + k → v ≤ L x) (h : chg L lo v k = true) : sumL (setL L lo (lo + k) v) N < sumL L N := by
 obtain ⟨x, h1, h2, h3⟩ := chg_true L lo v k h
 refine sumL_lt (setL_le L lo (lo + k) v hv) N x (by omega) ?_
 unfold setL
 rw [if_pos ⟨h1, h2⟩]
 have := hv x h1 h2
 omega
def turn1 (n : Nat) (s : Lab × Bool) (x : Lk) : Lab × Bool :=
 let v0 := leastL s.1 x.a (x.b - x.a)
 if x.c < x.d then
  let v := min v0 (leastL s.1 (n + x.c) (x.d - x.c))
  let L1 := setL s.1 (n + x.c) (n + x.c + (x.d - x.c)) v
  (setL L1 x.a (x.a + (x.b - x.a)) v, chg L1 x.a v (x.b - x.a) || (chg s.1 (n + x.c) v (x.d - x.c) || s.2))
 else (setL s.1 x.a (x.a + (x.b - x.a)) v0, chg s.1 x.a v0 (x.b - x.a) || s.2)
structure LkOk (n m : Nat) (R : Nat → Nat → Prop) (x : Lk) : Prop where
 ins : ∀ i, x.a ≤ i → i < x.b → R x.a i
 outs : ∀ i, x.c ≤ i → i < x.d → R (n + x.c) (n + i)
 both : x.c < x.d → R x.a (n + x.c)
structure LkIn (n m : Nat) (x : Lk) : Prop where
 a : x.a < x.b
 b : x.b ≤ n
 d : x.c < x.d → x.d ≤ m
theorem sound_turn1 {n m : Nat} {R : Nat → Nat → Prop} (hR : Eqv R) {x : Lk} (hx : LkOk n m R x) (hi : LkIn n m x) (s : Lab × Bool) (h : Sound R s.1) : Sound R (turn1 n s x).1 := by
 have hab := hi.a
 obtain ⟨y0, h1, h2, h3⟩ := leastL_is s.1 x.a (x.b - x.a) (by omega)
 have hy0 : R x.a y0 := hx.ins y0 h1 (by omega)
 have hv0 : R x.a (leastL s.1 x.a (x.b - x.a)) := by rw [h3]; exact hR.trans _ _ _ hy0 (h y0)
 unfold turn1
 dsimp only
 split
 ·rename_i hcd
  obtain ⟨y1, g1, g2, g3⟩ := leastL_is s.1 (n + x.c) (x.d - x.c) (by omega)
  have hy1 : R (n + x.c) y1 := by
   have := hx.outs (y1 - n) (by omega) (by omega)
   rwa [show n + (y1 - n) = y1 by omega] at this
  have hv1 : R x.a (leastL s.1 (n + x.c) (x.d - x.c)) := by rw [g3]; exact hR.trans _ _ _ (hx.both hcd) (hR.trans _ _ _ hy1 (h y1))
  have hv : R x.a (min (leastL s.1 x.a (x.b - x.a)) (leastL s.1 (n + x.c) (x.d - x.c))) := by
   rcases Nat.le_total (leastL s.1 x.a (x.b - x.a)) (leastL s.1 (n + x.c) (x.d - x.c)) with hle | hle
   ·rw [Nat.min_eq_left hle]; exact hv0
   ·rw [Nat.min_eq_right hle]; exact hv1
  refine sound_setL (sound_setL h _ _ _ ?_) _ _ _ ?_
  ·intro z z1 z2
   have := hx.outs (z - n) (by omega) (by omega)
   rw [show n + (z - n) = z by omega] at this
   exact hR.trans _ _ _ (hR.symm _ _ this) (hR.trans _ _ _ (hR.symm _ _ (hx.both hcd)) hv)
  ·intro z z1 z2
   exact hR.trans _ _ _ (hR.symm _ _ (hx.ins z z1 (by omega))) hv
 ·refine sound_setL h _ _ _ ?_
  intro z z1 z2
  exact hR.trans _ _ _ (hR.symm _ _ (hx.ins z z1 (by omega))) hv0
theorem turn1_false (n : Nat) (s : Lab × Bool) (x : Lk) (h : (turn1 n s x).2 = false) : s.2 = false ∧ (turn1 n s x).1 = s.1 ∧ (∀ i, x.a ≤ i → i < x.b → s.1 x.a = s.1 i) ∧ (x.c < x.d → x.a < x.b → (∀ i, x.c ≤ i → i < x.d → s.1 (n + x.c) = s.1 (n + i)) ∧ s.1 x.a = s.1 (n + x.c)) := by
 unfold turn1 at h ⊢
 dsimp only at h ⊢
 split
 ·rename_i hcd
  rw [if_pos hcd] at h
  rw [Bool.or_eq_false_iff, Bool.or_eq_false_iff] at h
  obtain ⟨h1, h2, h3⟩ := h
  have e2 := chg_false _ _ _ _ h2
  have hs1 := setL_same s.1 (n + x.c) (n + x.c + (x.d - x.c)) _ e2
  rw [hs1] at h1 ⊢
  have e1 := chg_false _ _ _ _ h1
  have hs2 := setL_same s.1 x.a (x.a + (x.b - x.a)) _ e1
  rw [hs2]
  refine ⟨h3, rfl, fun i i1 i2 => by rw [e1 x.a (qlR _) (by omega), e1 i i1 (by omega)], fun _ hab => ⟨fun i i1 i2 => by rw [e2 (n + x.c) (qlR _) (by omega), e2 (n + i) (by omega) (by omega)], by rw [e1 x.a (qlR _) (by omega), e2 (n + x.c) (qlR _) (by omega)]⟩⟩
 ·rename_i hcd
  rw [if_neg hcd] at h
  rw [Bool.or_eq_false_iff] at h
  obtain ⟨h1, h3⟩ := h
  have e1 := chg_false _ _ _ _ h1
  have hs2 := setL_same s.1 x.a (x.a + (x.b - x.a)) _ e1
  rw [hs2]
  exact ⟨h3, rfl, fun i i1 i2 => by rw [e1 x.a (qlR _) (by omega), e1 i i1 (by omega)], fun hc => absurd hc hcd⟩
theorem turn1_sum {n m : Nat} {x : Lk} (hi : LkIn n m x) (s : Lab × Bool) : sumL (turn1 n s x).1 (n + m) ≤ sumL s.1 (n + m) ∧ ((turn1 n s x).2 = true → s.2 = true ∨ sumL (turn1 n s x).1 (n + m) < sumL s.1 (n + m)) := by
 have hab := hi.a
 have hbn := hi.b
 unfold turn1
 dsimp only
 split
 ·rename_i hcd
  have hdm := hi.d hcd
  obtain ⟨v, hv⟩ : ∃ v, v = min (leastL s.1 x.a (x.b - x.a)) (leastL s.1 (n + x.c) (x.d - x.c)) := ⟨_, rfl⟩
  rw [← hv]
  have l1 : ∀ z, n + x.c ≤ z → z < n + x.c + (x.d - x.c) → v ≤ s.1 z := fun z z1 z2 => by have := leastL_le s.1 (n + x.c) (x.d - x.c) z z1 z2; omega
  have l2 : ∀ z, x.a ≤ z → z < x.a + (x.b - x.a) → v ≤ setL s.1 (n + x.c) (n + x.c + (x.d - x.c)) v z := fun z z1 z2 => by
   have := leastL_le s.1 x.a (x.b - x.a) z z1 z2
   unfold setL
   split <;> omega
  have m1 := sumL_le (setL_le s.1 (n + x.c) (n + x.c + (x.d - x.c)) v l1) (n + m)
  have m2 := sumL_le (setL_le _ x.a (x.a + (x.b - x.a)) v l2) (n + m)
  refine ⟨by dsimp only; omega, fun h => ?_⟩
  rw [Bool.or_eq_true, Bool.or_eq_true] at h
  rcases h with h | h | h
  ·have := chg_lt _ x.a v (x.b - x.a) (n + m) (by omega) l2 h
   exact .inr (by dsimp only; omega)
  ·have := chg_lt _ (n + x.c) v (x.d - x.c) (n + m) (by omega) l1 h
   exact .inr (by dsimp only; omega)
  ·exact .inl h
 ·have l2 : ∀ z, x.a ≤ z → z < x.a + (x.b - x.a) → leastL s.1 x.a (x.b - x.a) ≤ s.1 z := fun z z1 z2 => leastL_le s.1 x.a (x.b - x.a) z z1 z2
  have m2 := sumL_le (setL_le _ x.a (x.a + (x.b - x.a)) _ l2) (n + m)
  refine ⟨m2, fun h => ?_⟩
  rw [Bool.or_eq_true] at h
  rcases h with h | h
  ·exact .inr (chg_lt _ x.a _ (x.b - x.a) (n + m) (by omega) l2 h)
  ·exact .inl h
def hullL (L : Lab) (lo v : Nat) : Nat → Nat × Nat
 | 0 => (0, 0)
 | k + 1 => let s := hullL L lo v k
  if L (lo + k) = v then ((if s.2 = 0 then k else s.1), k + 1) else s
theorem hullL_is (L : Lab) (lo v k : Nat) : ((hullL L lo v k) = (0, 0) ∧ ∀ i, i < k → L (lo + i) ≠ v) ∨ ((hullL L lo v k).1 < (hullL L lo v k).2 ∧ (hullL L lo v k).2 ≤ k ∧ L (lo + (hullL L lo v k).1) = v ∧ L (lo + (hullL L lo v k).2 - 1) = v ∧ ∀ i, i < k → L (lo + i) = v → (hullL L lo v k).1 ≤ i ∧ i < (hullL L lo v k).2) := by
 induction k with
 | zero => exact .inl ⟨rfl, fun i h => by omega⟩
 | succ k ih =>
  unfold hullL
  dsimp only
  split
  ·rename_i h
   right
   rcases ih with ⟨h1, h2⟩ | ⟨h1, h2, h3, h4, h5⟩
   ·rw [h1]
    refine ⟨by simp, by simp, by simpa using h, by simpa [Nat.add_sub_assoc] using h, fun i hi he => ?_⟩
    by_cases hik : i = k
    ·subst hik; simp
    ·exact absurd he (h2 i (by omega))
   ·rw [if_neg (by omega)]
    refine ⟨by dsimp only; omega, by dsimp only; omega, h3, by dsimp only; rw [show lo + (k + 1) - 1 = lo + k by omega]; exact h, fun i hi he => ?_⟩
    dsimp only
    by_cases hik : i = k
    ·subst hik; omega
    ·have := h5 i (by omega) he; omega
  ·rename_i h
   rcases ih with ⟨h1, h2⟩ | ⟨h1, h2, h3, h4, h5⟩
   ·left
    refine ⟨h1, fun i hi he => ?_⟩
    by_cases hik : i = k
    ·subst hik; exact h he
    ·exact h2 i (by omega) he
   ·right
    refine ⟨h1, by omega, h3, h4, fun i hi he => ?_⟩
    by_cases hik : i = k
    ·subst hik; exact absurd he h
    ·exact h5 i (by omega) he
def wholeTo (L : Lab) (lo len : Nat) : Nat → Lab × Bool
 | 0 => (L, false)
 | k + 1 => let q := wholeTo L lo len k
  let s := hullL q.1 lo (q.1 (lo + k)) len
  let v := leastL q.1 (lo + s.1) (s.2 - s.1)
  (setL q.1 (lo + s.1) (lo + s.1 + (s.2 - s.1)) v, chg q.1 (lo + s.1) v (s.2 - s.1) || q.2)
theorem sound_wholeTo {R : Nat → Nat → Prop} (hR : Eqv R) {lo len : Nat} (hb : Between R lo (lo + len)) (L : Lab) (k : Nat) (hk : k ≤ len) (h : Sound R L) : Sound R (wholeTo L lo len k).1 := by
 induction k with
 | zero => exact h
 | succ k ih =>
  have ih' := ih (by omega)
  unfold wholeTo
  dsimp only
  generalize (wholeTo L lo len k).1 = q at ih' ⊢
  rcases hullL_is q lo (q (lo + k)) len with ⟨_, h2⟩ | ⟨h1, h2, h3, h4, h5⟩
  ·exact absurd rfl (h2 k (by omega))
  ·generalize hullL q lo (q (lo + k)) len = s at h1 h2 h3 h4 h5
   obtain ⟨y, y1, y2, y3⟩ := leastL_is q (lo + s.1) (s.2 - s.1) (by omega)
   have hspan : ∀ z, lo + s.1 ≤ z → z < lo + s.1 + (s.2 - s.1) → R (lo + s.1) z := fun z z1 z2 => by
    have hl : R (lo + s.1) (lo + s.2 - 1) := Sound.eq hR ih' (by rw [h3, h4])
    exact hb (lo + s.1) z (lo + s.2 - 1) (by omega) z1 (by omega) (by omega) hl
   refine sound_setL ih' _ _ _ (fun z z1 z2 => ?_)
   rw [y3]
   exact hR.trans _ _ _ (hR.symm _ _ (hspan z z1 z2)) (hR.trans _ _ _ (hspan y y1 y2) (ih' y))
theorem wholeTo_false (L : Lab) (lo len k : Nat) (hk : k ≤ len) (h : (wholeTo L lo len k).2 = false) : (wholeTo L lo len k).1 = L ∧ ∀ i, i < k → ∀ j, i ≤ j → j < len → ∀ z, lo + i ≤ z → z ≤ lo + j → L (lo + i) = L (lo + j) → L (lo + i) = L z := by
 induction k with
 | zero => exact ⟨rfl, fun i hi => by omega⟩
 | succ k ih =>
  unfold wholeTo at h ⊢
  dsimp only at h ⊢
  rw [Bool.or_eq_false_iff] at h
  obtain ⟨h1, h2⟩ := ih (by omega) h.2
  rw [h1] at h ⊢
  have hc := chg_false _ _ _ _ h.1
  rw [setL_same _ _ _ _ hc]
  refine ⟨rfl, fun i hi j hij hj z z1 z2 he => ?_⟩
  by_cases hik : i = k
  ·subst hik
   rcases hullL_is L lo (L (lo + i)) len with ⟨_, g2⟩ | ⟨g1, g2, g3, g4, g5⟩
   ·exact absurd rfl (g2 i (by omega))
   ·have a1 := g5 i (by omega) rfl
    have a2 := g5 j hj he.symm
    rw [hc (lo + i) (by omega) (by omega), hc z (by omega) (by omega)]
  ·exact h2 i (by omega) j hij hj z z1 z2 he
theorem wholeTo_sum (L : Lab) (lo len N k : Nat) (hk : k ≤ len) (hN : lo + len ≤ N) : sumL (wholeTo L lo len k).1 N ≤ sumL L N ∧ ((wholeTo L lo len k).2 = true → sumL (wholeTo L lo len k).1 N < sumL L N) := by
 induction k with
 | zero => exact ⟨qlR _, fun h => by cases h⟩
 | succ k ih =>
  obtain ⟨h1, h2⟩ := ih (by omega)
  unfold wholeTo
  dsimp only
  generalize wholeTo L lo len k = q at h1 h2 ⊢
  have hs : (hullL q.1 lo (q.1 (lo + k)) len).2 ≤ len := by
   rcases hullL_is q.1 lo (q.1 (lo + k)) len with ⟨e, _⟩ | ⟨_, g2, _⟩
   ·rw [e]; exact Nat.zero_le _
   ·exact g2
  generalize hullL q.1 lo (q.1 (lo + k)) len = s at hs
  have l1 := leastL_le q.1 (lo + s.1) (s.2 - s.1)
  have m1 := sumL_le (setL_le q.1 (lo + s.1) (lo + s.1 + (s.2 - s.1)) _ l1) N
  refine ⟨by omega, fun h => ?_⟩
  rw [Bool.or_eq_true] at h
  rcases h with h | h
  ·by_cases hz : s.1 < s.2
   ·have := chg_lt q.1 (lo + s.1) _ (s.2 - s.1) N (by omega) l1 h
    omega
   ·rw [show s.2 - s.1 = 0 by omega] at h
    cases h
  ·have := h2 h; omega
def turnsL (n : Nat) (all : List Lk) (L : Lab) : Lab × Bool := all.foldl (turn1 n) (L, false)
def turnL (n m : Nat) (all : List Lk) (L : Lab) : Lab × Bool :=
 let q := turnsL n all L
 let w1 := wholeTo q.1 0 n n
 let w2 := wholeTo w1.1 n m m
 (w2.1, w2.2 || (w1.2 || q.2))
theorem sound_turns {n m : Nat} {R : Nat → Nat → Prop} (hR : Eqv R) (all : List Lk) (ho : ∀ x ∈ all, LkOk n m R x) (hi : ∀ x ∈ all, LkIn n m x) : ∀ s : Lab × Bool, Sound R s.1 → Sound R (all.foldl (turn1 n) s).1 := by
 induction all with
 | nil => intro s h; exact h
 | cons x t ih => intro s h; exact ih (fun y hy => ho y (List.mem_cons_of_mem _ hy)) (fun y hy => hi y (List.mem_cons_of_mem _ hy)) _ (sound_turn1 hR (ho x List.mem_cons_self) (hi x List.mem_cons_self) s h)
theorem turns_false (n : Nat) (all : List Lk) : ∀ s : Lab × Bool, (all.foldl (turn1 n) s).2 = false → s.2 = false ∧ (all.foldl (turn1 n) s).1 = s.1 ∧ ∀ x ∈ all, (∀ i, x.a ≤ i → i < x.b → s.1 x.a = s.1 i) ∧ (x.c < x.d → x.a < x.b → (∀ i, x.c ≤ i → i < x.d → s.1 (n + x.c) = s.1 (n + i)) ∧ s.1 x.a = s.1 (n + x.c)) := by
 induction all with
 | nil => intro s h; exact ⟨h, rfl, fun x hx => by simp at hx⟩
 | cons x t ih =>
  intro s h
  obtain ⟨h1, h2, h3⟩ := ih (turn1 n s x) h
  obtain ⟨g1, g2, g3⟩ := turn1_false n s x h1
  rw [g2] at h2 h3
  refine ⟨g1, h2, fun y hy => ?_⟩
  rcases List.mem_cons.1 hy with rfl | hy
  ·exact g3
  ·exact h3 y hy
theorem turns_sum {n m : Nat} (all : List Lk) (hi : ∀ x ∈ all, LkIn n m x) : ∀ s : Lab × Bool, sumL (all.foldl (turn1 n) s).1 (n + m) ≤ sumL s.1 (n + m) ∧ ((all.foldl (turn1 n) s).2 = true → s.2 = true ∨ sumL (all.foldl (turn1 n) s).1 (n + m) < sumL s.1 (n + m)) := by
 induction all with
 | nil => intro s; exact ⟨qlR _, fun h => .inl h⟩
 | cons x t ih =>
  intro s
  obtain ⟨h1, h2⟩ := ih (fun y hy => hi y (List.mem_cons_of_mem _ hy)) (turn1 n s x)
  obtain ⟨g1, g2⟩ := turn1_sum (hi x List.mem_cons_self) s
  rw [List.foldl_cons]
  refine ⟨by omega, fun h => ?_⟩
  rcases h2 h with h3 | h3
  ·rcases g2 h3 with h4 | h4
   ·exact .inl h4
   ·exact .inr (by omega)
  ·exact .inr (by omega)
theorem sound_turnL {n m : Nat} {R : Nat → Nat → Prop} (hR : Eqv R) (c1 : Between R 0 n) (c2 : Between R n (n + m)) {all : List Lk} (ho : ∀ x ∈ all, LkOk n m R x) (hi : ∀ x ∈ all, LkIn n m x) {L : Lab} (h : Sound R L) : Sound R (turnL n m all L).1 :=
 sound_wholeTo hR c2 _ m (qlR _) (sound_wholeTo hR (by rwa [Nat.zero_add]) _ n (qlR _) (sound_turns hR all ho hi (L, false) h))
theorem turnL_false {n m : Nat} {all : List Lk} {L : Lab} (h : (turnL n m all L).2 = false) : (turnL n m all L).1 = L ∧ (∀ x ∈ all, (∀ i, x.a ≤ i → i < x.b → L x.a = L i) ∧ (x.c < x.d → x.a < x.b → (∀ i, x.c ≤ i → i < x.d → L (n + x.c) = L (n + i)) ∧ L x.a = L (n + x.c))) ∧ Between (fun x y => L x = L y) 0 n ∧ Between (fun x y => L x = L y) n (n + m) := by
 unfold turnL at h ⊢
 dsimp only at h ⊢
 rw [Bool.or_eq_false_iff, Bool.or_eq_false_iff] at h
 obtain ⟨h1, h2, h3⟩ := h
 obtain ⟨_, g2, g3⟩ := turns_false n all (L, false) h3
 have g2' : (turnsL n all L).1 = L := g2
 rw [g2'] at h1 h2 ⊢
 obtain ⟨a1, a2⟩ := wholeTo_false _ _ _ _ (qlR _) h2
 rw [a1] at h1 ⊢
 obtain ⟨b1, b2⟩ := wholeTo_false _ _ _ _ (qlR _) h1
 refine ⟨b1, g3, fun i j k h0 hij hjk hk he => ?_, fun i j k h0 hij hjk hk he => ?_⟩
 ·have := a2 i (by omega) k (by omega) hk j (by omega) (by omega)
  simp only [Nat.zero_add] at this
  exact this he
 ·have := b2 (i - n) (by omega) (k - n) (by omega) (by omega) j (by omega) (by omega)
  rw [show n + (i - n) = i by omega, show n + (k - n) = k by omega] at this
  exact this he
theorem turnL_sum {n m : Nat} {all : List Lk} (hi : ∀ x ∈ all, LkIn n m x) (L : Lab) : sumL (turnL n m all L).1 (n + m) ≤ sumL L (n + m) ∧ ((turnL n m all L).2 = true → sumL (turnL n m all L).1 (n + m) < sumL L (n + m)) := by
 unfold turnL turnsL
 dsimp only
 obtain ⟨h1, h2⟩ := turns_sum all hi (L, false)
 obtain ⟨a1, a2⟩ := wholeTo_sum (all.foldl (turn1 n) (L, false)).1 0 n (n + m) n (qlR _) (by omega)
 obtain ⟨b1, b2⟩ := wholeTo_sum (wholeTo (all.foldl (turn1 n) (L, false)).1 0 n n).1 n m (n + m) m (qlR _) (qlR _)
 refine ⟨by dsimp only at h1; omega, fun h => ?_⟩
 rw [Bool.or_eq_true, Bool.or_eq_true] at h
 dsimp only at h1
 rcases h with h | h | h
 ·have := b2 h; omega
 ·have := a2 h; omega
 ·rcases h2 h with h3 | h3
  ·cases h3
  ·dsimp only at h3; omega
end UFinest
end
end Go.Proofs.YtemhccjjcioodaaGreat
