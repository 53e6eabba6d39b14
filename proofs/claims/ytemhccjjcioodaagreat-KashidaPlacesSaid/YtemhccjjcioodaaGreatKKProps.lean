/- Texts of this claim, cut to what it needs. -/
import Derived.Test.YtemhccjjcioodaaGreatProg
import Derived.Below
import Derived.Deep.Draws
import Derived.Deep.AppendLies
import Derived.Maps.AppendAt
import Derived.OwnWalk
import Derived.Laws.BytesArg
import Derived.Laws.MakeOwn
import Derived.Laws.OwnMore
import Derived.Deep.OwnRows
import Derived.Tactics
import Derived.Lib.ConvBytes
import Derived.Laws.Slices
import Derived.WalkKit
import Derived.KernelRfl
import Derived.RowKit3
import Derived.Deep.LoopGhost
import Derived.Deep.QuietTactic
import Derived.BigQuiet
import Derived.WideLaws
import Derived.Deep.DeepCutAuto
import Derived.Deep.CutBlock
import Derived.Deep.RegionHeld3
import Derived.Laws.Rows
import Derived.Lib.AppendStr
import Derived.ArgAppend
import Derived.Laws.IdiomCopy
import Derived.OrdersHeld
import Derived.Laws.BitsLemmas
import Derived.RowKit
import Derived.Test.YtemhccjjcioodaaGreatKWLast
import Derived.Test.YtemhccjjcioodaaGreatKWMore
import Derived.Test.YtemhccjjcioodaaGreatKPJoinFormsx1
import Derived.Test.YtemhccjjcioodaaGreatKCFinA
import Derived.Test.YtemhccjjcioodaaGreatKUTable
import Derived.IntWalk
set_option linter.unusedSimpArgs false
set_option linter.unusedVariables false
section
namespace Go.Proofs.YtemhccjjcioodaaGreat.PJoinForms
open Go.RowKit Go.Proofs.YtemhccjjcioodaaGreatW.PrintWords Go.Proofs.YtemhccjjcioodaaGreatW.PrintLast Go.Proofs.YtemhccjjcioodaaGreatW.PrintMore
attribute [local go_sem] max2_int min2_int max_two min_two max_three min_three max_four min_four   -- for this text's walks alone
mutual
def naskhref13_Ahead.j0 : Nat → List Int → Int → Bool → Option (Int)
 | 0, _, _, _ => none
 | k + 1, x0, x1, x13 => if x13 = true then (some (-1)) else (naskhref13_Ahead.l0 k x0 (wrap64 (x1 - 1)))
def naskhref13_Ahead.l0 : Nat → List Int → Int → Option (Int)
 | 0, _, _ => none
 | k + 1, x0, x5 => if x5 ≥ 0 then (if 0 ≤ x5 then (if x5 < (x0.length : Int) then (if (rd x0 x5) = 1 then (naskhref13_Ahead.l0 k x0 (wrap64 (x5 - 1))) else (some x5)) else (none)) else (none)) else (some (-1))
end
def naskhref13_Ahead.f (k : Nat) (l0 : List Int) (a1 : Int) : Option (Int) := if a1 < 0 then (naskhref13_Ahead.j0 k l0 a1 true) else (naskhref13_Ahead.j0 k l0 a1 (decide (a1 ≥ (l0.length : Int))))
set_option maxHeartbeats 8000000 in
set_option maxRecDepth 100000 in
theorem naskhref13_Ahead.calls (k : Nat) (A0 : Option Addr) (c0 : Nat) (l0 : List Int) (a1 : Int) (r : Int) (w : World) (hr0 : Kd.C (Kd.int .i64) w A0 l0.length l0) (hc0 : l0.length ≤ c0) (h : naskhref13_Ahead.f k l0 a1 = some r) :
 Calls Tryz.prog 108 #[.slice A0 l0.length c0, .int .i64 a1] w fun e w' => e = .returned (.int .i64 r) ∧ Drawn0 w w' := by
 have HR0 := Aside0.mk hr0
 have HC0 := Aside0.mk hc0
 clear hr0 hc0
 have H : (if a1 < 0 then (naskhref13_Ahead.j0 k l0 a1 true) else (naskhref13_Ahead.j0 k l0 a1 (decide (a1 ≥ (l0.length : Int))))) = some r := h
 clear h
 have HC3 := Aside0.mk H; clear H
 go_enter Tryz.func108, Tryz.ntmps108
 go_upto_region 1 with (fail)
 go_cut [13] (fun v13 wc => ∃ (kq : Nat) (x13_2 : Bool), v13 = .bool x13_2 ∧ Aside0 (naskhref13_Ahead.j0 kq l0 a1 x13_2 = some r) ∧ Aside0 (kq ≤ k) ∧ Drawn0 w wc)
 case first =>
  have H := HC3.out
  clear HC3
  by_cases c4 : a1 < 0
  ·rw [if_pos c4] at H
   have c4b0 : decide (a1 < 0) = true := decide_eq_true c4
   clear c4
   (first | rw [c4b0] | (simp only [i64_w, i32_w]; rw [c4b0]) | skip)
   have H' := Aside0.mk H
   clear H
   go_wp2
   go_meet
   case rel => exact ⟨_, (true), (by first | rfl | (simp; done) | (simp [*]; done)), H', ⟨by first | omega | exact Nat.le_refl _⟩, by repeat (first | exact Drawn0.refl _ | apply Drawn0.step)⟩
  ·rw [if_neg c4] at H
   have c4b0 : decide (a1 < 0) = false := decide_eq_false c4
   clear c4
   (first | rw [c4b0] | (simp only [i64_w, i32_w]; rw [c4b0]) | skip)
   have H' := Aside0.mk H
   clear H
   go_wp2
   go_meet
   case rel => exact ⟨_, (decide (a1 ≥ (l0.length : Int))), (by first | rfl | (simp; done) | (simp [*]; done)), H', ⟨by first | omega | exact Nat.le_refl _⟩, by repeat (first | exact Drawn0.refl _ | apply Drawn0.step)⟩
 case rest =>
  clear HC3
  try clear c2
  try clear p2
  try clear c4
  try clear c4b0
  obtain ⟨kq, x13_2, rfl, HA, HJ2, ⟨mc2, rfl⟩⟩ := hcut
  cases kq with
  | zero => exact absurd HA.out (by simp [naskhref13_Ahead.j0])
  | succ kj2 =>
   have H := HA.out
   clear HA
   simp only [naskhref13_Ahead.j0] at H
   by_cases c5 : x13_2 = true
   ·subst c5
    rw [if_pos rfl] at H
    obtain rfl := Option.some.inj H
    go_wp2
    go_ret
    exact ⟨by first | rfl | (simp; done) | (simp [*]; done), by repeat (first | exact Drawn0.refl _ | apply Drawn0.step)⟩
   ·replace c5 := Bool.eq_false_iff.mpr c5
    subst c5
    rw [if_neg (show ¬ (false = true) by decide)] at H
    have H' := Aside0.mk H
    clear H
    go_wp2
    go_loopg [5] kj2 (fun kq v5 w' => ∃ (x5_2 : Int), v5 = .int .i64 x5_2 ∧ Aside0 (naskhref13_Ahead.l0 kq l0 x5_2 = some r) ∧ Aside0 (kq ≤ kj2) ∧ Drawn0 w w')
    case atStart => exact ⟨(wrap64 (a1 - 1)), (by first | rfl | (simp; done) | (simp [*]; done)), H', ⟨Nat.le_refl _⟩, by repeat (first | exact Drawn0.refl _ | apply Drawn0.step)⟩
    case round =>
     clear H'
     try clear c2
     try clear p2
     try clear c4
     try clear c4b0
     try clear c5
     try clear p2
     obtain ⟨x5_2, rfl, HA, HK2, ⟨m2, rfl⟩⟩ := hrel
     cases gk with
     | zero => exact absurd HA.out (by simp [naskhref13_Ahead.l0])
     | succ k2 =>
      have H := HA.out
      clear HA
      simp only [naskhref13_Ahead.l0] at H
      by_cases c6 : x5_2 ≥ 0
      ·rw [if_pos c6] at H
       have c6b0 : decide (0 ≤ x5_2) = true := decide_eq_true c6
       clear c6
       by_cases c7 : 0 ≤ x5_2
       ·rw [if_pos c7] at H
        have c7b0 : decide (0 ≤ x5_2) = true := decide_eq_true c7
        clear c7
        by_cases c8 : x5_2 < (l0.length : Int)
        ·rw [if_pos c8] at H
         have c8b0 : decide (x5_2 < (l0.length : Int)) = true := decide_eq_true c8
         clear c8
         by_cases c9 : (rd l0 x5_2) = 1
         ·rw [if_pos c9] at H
          have c9b0 : ((rd l0 x5_2) == 1) = true := beq_iff_eq.mpr c9
          have c9b1 : ((rd l0 x5_2) != 1) = false := bne_eq_false_iff_eq.mpr c9
          clear c9
          have H' := Aside0.mk H
          clear H
          have p120 : 0 ≤ (x5_2 : Int) := of_decide_eq_true (by first | (with_reducible assumption) | assumption)
          have q120 : x5_2 < (l0.length : Int) := of_decide_eq_true (by first | (with_reducible assumption) | assumption)
          obtain ⟨ad120, e120, hx120_0⟩ := Kd.at_int HR0.out x5_2 p120 q120
          cases e120
          replace p120 := eq_true p120
          replace q120 := eq_true q120
          go_wp2
          go_roundg k2
          case measure => have := HJ2.out; have := HK2.out; omega
          case rel => exact ⟨(wrap64 (x5_2 - 1)), (by first | rfl | (simp; done) | (simp [*]; done)), H', ⟨by have := HJ2.out; have := HK2.out; omega⟩, by repeat (first | exact Drawn0.refl _ | apply Drawn0.step)⟩
         ·rw [if_neg c9] at H
          have c9b0 : ((rd l0 x5_2) == 1) = false := beq_eq_false_iff_ne.mpr c9
          have c9b1 : ((rd l0 x5_2) != 1) = true := bne_iff_ne.mpr c9
          obtain rfl := Option.some.inj H
          have p120 : 0 ≤ (x5_2 : Int) := of_decide_eq_true (by first | (with_reducible assumption) | assumption)
          have q120 : x5_2 < (l0.length : Int) := of_decide_eq_true (by first | (with_reducible assumption) | assumption)
          obtain ⟨ad120, e120, hx120_0⟩ := Kd.at_int HR0.out x5_2 p120 q120
          cases e120
          replace p120 := eq_true p120
          replace q120 := eq_true q120
          go_wp2
          go_ret
          exact ⟨by first | rfl | (simp; done) | (simp [*]; done), by repeat (first | exact Drawn0.refl _ | apply Drawn0.step)⟩
        ·rw [if_neg c8] at H
         exact absurd H (by simp)
       ·rw [if_neg c7] at H
        exact absurd H (by simp)
      ·rw [if_neg c6] at H
       have c6b0 : decide (0 ≤ x5_2) = false := decide_eq_false c6
       clear c6
       obtain rfl := Option.some.inj H
       go_wp2
       go_ret
       exact ⟨by first | rfl | (simp; done) | (simp [*]; done), by repeat (first | exact Drawn0.refl _ | apply Drawn0.step)⟩
mutual
def naskhref13_Behind.j0 : Nat → List Int → Int → Bool → Option (Int)
 | 0, _, _, _ => none
 | k + 1, x0, x1, x13 => if x13 = true then (some (-1)) else (naskhref13_Behind.l0 k x0 (wrap64 (x1 + 1)))
def naskhref13_Behind.l0 : Nat → List Int → Int → Option (Int)
 | 0, _, _ => none
 | k + 1, x0, x5 => if x5 < (x0.length : Int) then (if 0 ≤ x5 then (if (rd x0 x5) = 1 then (naskhref13_Behind.l0 k x0 (wrap64 (x5 + 1))) else (some x5)) else (none)) else (some (-1))
end
def naskhref13_Behind.f (k : Nat) (l0 : List Int) (a1 : Int) : Option (Int) := if a1 < 0 then (naskhref13_Behind.j0 k l0 a1 true) else (naskhref13_Behind.j0 k l0 a1 (decide (a1 ≥ (l0.length : Int))))
set_option maxHeartbeats 8000000 in
set_option maxRecDepth 100000 in
theorem naskhref13_Behind.calls (k : Nat) (A0 : Option Addr) (c0 : Nat) (l0 : List Int) (a1 : Int) (r : Int) (w : World) (hr0 : Kd.C (Kd.int .i64) w A0 l0.length l0) (hc0 : l0.length ≤ c0) (h : naskhref13_Behind.f k l0 a1 = some r) :
 Calls Tryz.prog 26 #[.slice A0 l0.length c0, .int .i64 a1] w fun e w' => e = .returned (.int .i64 r) ∧ Drawn0 w w' := by
 have HR0 := Aside0.mk hr0
 have HC0 := Aside0.mk hc0
 clear hr0 hc0
 have H : (if a1 < 0 then (naskhref13_Behind.j0 k l0 a1 true) else (naskhref13_Behind.j0 k l0 a1 (decide (a1 ≥ (l0.length : Int))))) = some r := h
 clear h
 have HC3 := Aside0.mk H; clear H
 go_enter Tryz.func26, Tryz.ntmps26
 go_upto_region 1 with (fail)
 go_cut [13] (fun v13 wc => ∃ (kq : Nat) (x13_2 : Bool), v13 = .bool x13_2 ∧ Aside0 (naskhref13_Behind.j0 kq l0 a1 x13_2 = some r) ∧ Aside0 (kq ≤ k) ∧ Drawn0 w wc)
 case first =>
  have H := HC3.out
  clear HC3
  by_cases c4 : a1 < 0
  ·rw [if_pos c4] at H
   have c4b0 : decide (a1 < 0) = true := decide_eq_true c4
   clear c4
   (first | rw [c4b0] | (simp only [i64_w, i32_w]; rw [c4b0]) | skip)
   have H' := Aside0.mk H
   clear H
   go_wp2
   go_meet
   case rel => exact ⟨_, (true), (by first | rfl | (simp; done) | (simp [*]; done)), H', ⟨by first | omega | exact Nat.le_refl _⟩, by repeat (first | exact Drawn0.refl _ | apply Drawn0.step)⟩
  ·rw [if_neg c4] at H
   have c4b0 : decide (a1 < 0) = false := decide_eq_false c4
   clear c4
   (first | rw [c4b0] | (simp only [i64_w, i32_w]; rw [c4b0]) | skip)
   have H' := Aside0.mk H
   clear H
   go_wp2
   go_meet
   case rel => exact ⟨_, (decide (a1 ≥ (l0.length : Int))), (by first | rfl | (simp; done) | (simp [*]; done)), H', ⟨by first | omega | exact Nat.le_refl _⟩, by repeat (first | exact Drawn0.refl _ | apply Drawn0.step)⟩
 case rest =>
  clear HC3
  try clear c2
  try clear p2
  try clear c4
  try clear c4b0
  obtain ⟨kq, x13_2, rfl, HA, HJ2, ⟨mc2, rfl⟩⟩ := hcut
  cases kq with
  | zero => exact absurd HA.out (by simp [naskhref13_Behind.j0])
  | succ kj2 =>
   have H := HA.out
   clear HA
   simp only [naskhref13_Behind.j0] at H
   by_cases c5 : x13_2 = true
   ·subst c5
    rw [if_pos rfl] at H
    obtain rfl := Option.some.inj H
    go_wp2
    go_ret
    exact ⟨by first | rfl | (simp; done) | (simp [*]; done), by repeat (first | exact Drawn0.refl _ | apply Drawn0.step)⟩
   ·replace c5 := Bool.eq_false_iff.mpr c5
    subst c5
    rw [if_neg (show ¬ (false = true) by decide)] at H
    have H' := Aside0.mk H
    clear H
    go_wp2
    go_loopg [5] kj2 (fun kq v5 w' => ∃ (x5_2 : Int), v5 = .int .i64 x5_2 ∧ Aside0 (naskhref13_Behind.l0 kq l0 x5_2 = some r) ∧ Aside0 (kq ≤ kj2) ∧ Drawn0 w w')
    case atStart => exact ⟨(wrap64 (a1 + 1)), (by first | rfl | (simp; done) | (simp [*]; done)), H', ⟨Nat.le_refl _⟩, by repeat (first | exact Drawn0.refl _ | apply Drawn0.step)⟩
    case round =>
     clear H'
     try clear c2
     try clear p2
     try clear c4
     try clear c4b0
     try clear c5
     try clear p2
     obtain ⟨x5_2, rfl, HA, HK2, ⟨m2, rfl⟩⟩ := hrel
     cases gk with
     | zero => exact absurd HA.out (by simp [naskhref13_Behind.l0])
     | succ k2 =>
      have H := HA.out
      clear HA
      simp only [naskhref13_Behind.l0] at H
      by_cases c6 : x5_2 < (l0.length : Int)
      ·rw [if_pos c6] at H
       have c6b0 : decide (x5_2 < (l0.length : Int)) = true := decide_eq_true c6
       clear c6
       by_cases c7 : 0 ≤ x5_2
       ·rw [if_pos c7] at H
        have c7b0 : decide (0 ≤ x5_2) = true := decide_eq_true c7
        clear c7
        by_cases c8 : (rd l0 x5_2) = 1
        ·rw [if_pos c8] at H
         have c8b0 : ((rd l0 x5_2) == 1) = true := beq_iff_eq.mpr c8
         have c8b1 : ((rd l0 x5_2) != 1) = false := bne_eq_false_iff_eq.mpr c8
         clear c8
         have H' := Aside0.mk H
         clear H
         have p121 : 0 ≤ (x5_2 : Int) := of_decide_eq_true (by first | (with_reducible assumption) | assumption)
         have q121 : x5_2 < (l0.length : Int) := of_decide_eq_true (by first | (with_reducible assumption) | assumption)
         obtain ⟨ad121, e121, hx121_0⟩ := Kd.at_int HR0.out x5_2 p121 q121
         cases e121
         replace p121 := eq_true p121
         replace q121 := eq_true q121
         go_wp2
         go_roundg k2
         case measure => have := HJ2.out; have := HK2.out; omega
         case rel => exact ⟨(wrap64 (x5_2 + 1)), (by first | rfl | (simp; done) | (simp [*]; done)), H', ⟨by have := HJ2.out; have := HK2.out; omega⟩, by repeat (first | exact Drawn0.refl _ | apply Drawn0.step)⟩
        ·rw [if_neg c8] at H
         have c8b0 : ((rd l0 x5_2) == 1) = false := beq_eq_false_iff_ne.mpr c8
         have c8b1 : ((rd l0 x5_2) != 1) = true := bne_iff_ne.mpr c8
         obtain rfl := Option.some.inj H
         have p121 : 0 ≤ (x5_2 : Int) := of_decide_eq_true (by first | (with_reducible assumption) | assumption)
         have q121 : x5_2 < (l0.length : Int) := of_decide_eq_true (by first | (with_reducible assumption) | assumption)
         obtain ⟨ad121, e121, hx121_0⟩ := Kd.at_int HR0.out x5_2 p121 q121
         cases e121
         replace p121 := eq_true p121
         replace q121 := eq_true q121
         go_wp2
         go_ret
         exact ⟨by first | rfl | (simp; done) | (simp [*]; done), by repeat (first | exact Drawn0.refl _ | apply Drawn0.step)⟩
       ·rw [if_neg c7] at H
        exact absurd H (by simp)
      ·rw [if_neg c6] at H
       have c6b0 : decide (x5_2 < (l0.length : Int)) = false := decide_eq_false c6
       clear c6
       obtain rfl := Option.some.inj H
       go_wp2
       go_ret
       exact ⟨by first | rfl | (simp; done) | (simp [*]; done), by repeat (first | exact Drawn0.refl _ | apply Drawn0.step)⟩
def naskhref13_Joined.f (k : Nat) (l0 : List Int) (a1 : Int) : Option (Bool) := (naskhref13_Behind.f k l0 a1).bind fun t122 => (if t122 < 0 then (some false) else (if 0 ≤ a1 then (if a1 < (l0.length : Int) then (if 0 ≤ t122 then (if t122 < (l0.length : Int) then (if (rd l0 a1) = 3 then (if (rd l0 t122) = 3 then (some true) else (if (rd l0 t122) = 2 then (some true) else (some ((rd l0 t122) == 5)))) else (if (rd l0 a1) = 4 then (if (rd l0 t122) = 3 then (some true) else (if (rd l0 t122) = 2 then (some true) else (some ((rd l0 t122) == 5)))) else (if (rd l0 a1) = 5 then (if (rd l0 t122) = 3 then (some true) else (if (rd l0 t122) = 2 then (some true) else (some ((rd l0 t122) == 5)))) else (some false)))) else (none)) else (none)) else (none)) else (none)))
set_option maxHeartbeats 8000000 in
set_option maxRecDepth 100000 in
theorem naskhref13_Joined.calls (k : Nat) (A0 : Option Addr) (c0 : Nat) (l0 : List Int) (a1 : Int) (r : Bool) (w : World) (hr0 : Kd.C (Kd.int .i64) w A0 l0.length l0) (hc0 : l0.length ≤ c0) (h : naskhref13_Joined.f k l0 a1 = some r) :
 Calls Tryz.prog 24 #[.slice A0 l0.length c0, .int .i64 a1] w fun e w' => e = .returned (.bool r) ∧ Drawn0 w w' := by
 have HR0 := Aside0.mk hr0
 have HC0 := Aside0.mk hc0
 clear hr0 hc0
 have H : ((naskhref13_Behind.f k l0 a1).bind fun t122 => (if t122 < 0 then (some false) else (if 0 ≤ a1 then (if a1 < (l0.length : Int) then (if 0 ≤ t122 then (if t122 < (l0.length : Int) then (if (rd l0 a1) = 3 then (if (rd l0 t122) = 3 then (some true) else (if (rd l0 t122) = 2 then (some true) else (some ((rd l0 t122) == 5)))) else (if (rd l0 a1) = 4 then (if (rd l0 t122) = 3 then (some true) else (if (rd l0 t122) = 2 then (some true) else (some ((rd l0 t122) == 5)))) else (if (rd l0 a1) = 5 then (if (rd l0 t122) = 3 then (some true) else (if (rd l0 t122) = 2 then (some true) else (some ((rd l0 t122) == 5)))) else (some false)))) else (none)) else (none)) else (none)) else (none)))) = some r := h
 clear h
 replace H := Option.bind_eq_some_iff.mp H
 obtain ⟨t122, A30, H⟩ := H
 try dsimp only at H
 have A3 := Aside0.mk A30; clear A30
 by_cases c4 : t122 < 0
 ·rw [if_pos c4] at H
  have c4b0 : decide (t122 < 0) = true := decide_eq_true c4
  clear c4
  obtain rfl := Option.some.inj H
  go_enter Tryz.func24, Tryz.ntmps24
  go_wp2_with (first | (go_at_call 26; (with_reducible refine (naskhref13_Behind.calls k _ _ l0 a1 t122 _ ?side1 ?side2 A3.out).mono ?_); (case side1 => repeat (first | exact HR0.out | (with_reducible refine Kd.C_alloc ?_ _) | (with_reducible refine Kd.C_drewN ?_ _) | (with_reducible refine Kd.C_drew ?_))); (case side2 => exact HC0.out); rintro e w' ⟨rfl, ⟨nd, rfl⟩⟩; (try first | exact ⟨rfl, _, World.drewN_drewN _ _ _⟩ | exact ⟨rfl, _, Eq.trans (World.drewN_drewN _ _ _) (congrArg (World.drewN _) (Nat.add_assoc _ _ _))⟩)))
  repeat (go_quiet (first | (go_at_call 26; (with_reducible refine (naskhref13_Behind.calls k _ _ l0 a1 t122 _ ?side1 ?side2 A3.out).mono ?_); (case side1 => repeat (first | exact HR0.out | (with_reducible refine Kd.C_alloc ?_ _) | (with_reducible refine Kd.C_drewN ?_ _) | (with_reducible refine Kd.C_drew ?_))); (case side2 => exact HC0.out); rintro e w' ⟨rfl, ⟨nd, rfl⟩⟩; (try first | exact ⟨rfl, _, World.drewN_drewN _ _ _⟩ | exact ⟨rfl, _, Eq.trans (World.drewN_drewN _ _ _) (congrArg (World.drewN _) (Nat.add_assoc _ _ _))⟩))); try go_wp2_with (first | (go_at_call 26; (with_reducible refine (naskhref13_Behind.calls k _ _ l0 a1 t122 _ ?side1 ?side2 A3.out).mono ?_); (case side1 => repeat (first | exact HR0.out | (with_reducible refine Kd.C_alloc ?_ _) | (with_reducible refine Kd.C_drewN ?_ _) | (with_reducible refine Kd.C_drew ?_))); (case side2 => exact HC0.out); rintro e w' ⟨rfl, ⟨nd, rfl⟩⟩; (try first | exact ⟨rfl, _, World.drewN_drewN _ _ _⟩ | exact ⟨rfl, _, Eq.trans (World.drewN_drewN _ _ _) (congrArg (World.drewN _) (Nat.add_assoc _ _ _))⟩))))
  go_ret
  exact ⟨by first | rfl | (simp; done) | (simp [*]; done), by repeat (first | exact Drawn0.refl _ | apply Drawn0.step)⟩
 ·rw [if_neg c4] at H
  have c4b0 : decide (t122 < 0) = false := decide_eq_false c4
  clear c4
  by_cases c5 : 0 ≤ a1
  ·rw [if_pos c5] at H
   have c5b0 : decide (0 ≤ a1) = true := decide_eq_true c5
   clear c5
   by_cases c6 : a1 < (l0.length : Int)
   ·rw [if_pos c6] at H
    have c6b0 : decide (a1 < (l0.length : Int)) = true := decide_eq_true c6
    clear c6
    by_cases c7 : 0 ≤ t122
    ·rw [if_pos c7] at H
     have c7b0 : decide (0 ≤ t122) = true := decide_eq_true c7
     clear c7
     by_cases c8 : t122 < (l0.length : Int)
     ·rw [if_pos c8] at H
      have c8b0 : decide (t122 < (l0.length : Int)) = true := decide_eq_true c8
      clear c8
      by_cases c9 : (rd l0 a1) = 3
      ·rw [if_pos c9] at H
       have c9b0 : ((rd l0 a1) == 3) = true := beq_iff_eq.mpr c9
       have c9b1 : ((rd l0 a1) != 3) = false := bne_eq_false_iff_eq.mpr c9
       clear c9
       by_cases c10 : (rd l0 t122) = 3
       ·rw [if_pos c10] at H
        have c10b0 : ((rd l0 t122) == 3) = true := beq_iff_eq.mpr c10
        have c10b1 : ((rd l0 t122) != 3) = false := bne_eq_false_iff_eq.mpr c10
        clear c10
        obtain rfl := Option.some.inj H
        go_enter Tryz.func24, Tryz.ntmps24
        go_wp2_with (first | (go_at_call 26; (with_reducible refine (naskhref13_Behind.calls k _ _ l0 a1 t122 _ ?side1 ?side2 A3.out).mono ?_); (case side1 => repeat (first | exact HR0.out | (with_reducible refine Kd.C_alloc ?_ _) | (with_reducible refine Kd.C_drewN ?_ _) | (with_reducible refine Kd.C_drew ?_))); (case side2 => exact HC0.out); rintro e w' ⟨rfl, ⟨nd, rfl⟩⟩; (try first | exact ⟨rfl, _, World.drewN_drewN _ _ _⟩ | exact ⟨rfl, _, Eq.trans (World.drewN_drewN _ _ _) (congrArg (World.drewN _) (Nat.add_assoc _ _ _))⟩); have p123 : 0 ≤ (a1 : Int) := of_decide_eq_true (by first | (with_reducible assumption) | assumption); have q123 : a1 < (l0.length : Int) := of_decide_eq_true (by first | (with_reducible assumption) | assumption); obtain ⟨ad123, e123, hx123_0⟩ := Kd.at_int HR0.out a1 p123 q123; cases e123; replace p123 := eq_true p123; replace q123 := eq_true q123; have p124 : 0 ≤ (t122 : Int) := of_decide_eq_true (by first | (with_reducible assumption) | assumption); have q124 : t122 < (l0.length : Int) := of_decide_eq_true (by first | (with_reducible assumption) | assumption); obtain ⟨ad124, e124, hx124_0⟩ := Kd.at_int HR0.out t122 p124 q124; obtain rfl : ad123 = ad124 := (by injection e124); replace p124 := eq_true p124; replace q124 := eq_true q124))
        repeat (go_quiet (first | (go_at_call 26; (with_reducible refine (naskhref13_Behind.calls k _ _ l0 a1 t122 _ ?side1 ?side2 A3.out).mono ?_); (case side1 => repeat (first | exact HR0.out | (with_reducible refine Kd.C_alloc ?_ _) | (with_reducible refine Kd.C_drewN ?_ _) | (with_reducible refine Kd.C_drew ?_))); (case side2 => exact HC0.out); rintro e w' ⟨rfl, ⟨nd, rfl⟩⟩; (try first | exact ⟨rfl, _, World.drewN_drewN _ _ _⟩ | exact ⟨rfl, _, Eq.trans (World.drewN_drewN _ _ _) (congrArg (World.drewN _) (Nat.add_assoc _ _ _))⟩); have p123 : 0 ≤ (a1 : Int) := of_decide_eq_true (by first | (with_reducible assumption) | assumption); have q123 : a1 < (l0.length : Int) := of_decide_eq_true (by first | (with_reducible assumption) | assumption); obtain ⟨ad123, e123, hx123_0⟩ := Kd.at_int HR0.out a1 p123 q123; cases e123; replace p123 := eq_true p123; replace q123 := eq_true q123; have p124 : 0 ≤ (t122 : Int) := of_decide_eq_true (by first | (with_reducible assumption) | assumption); have q124 : t122 < (l0.length : Int) := of_decide_eq_true (by first | (with_reducible assumption) | assumption); obtain ⟨ad124, e124, hx124_0⟩ := Kd.at_int HR0.out t122 p124 q124; obtain rfl : ad123 = ad124 := (by injection e124); replace p124 := eq_true p124; replace q124 := eq_true q124)); try go_wp2_with (first | (go_at_call 26; (with_reducible refine (naskhref13_Behind.calls k _ _ l0 a1 t122 _ ?side1 ?side2 A3.out).mono ?_); (case side1 => repeat (first | exact HR0.out | (with_reducible refine Kd.C_alloc ?_ _) | (with_reducible refine Kd.C_drewN ?_ _) | (with_reducible refine Kd.C_drew ?_))); (case side2 => exact HC0.out); rintro e w' ⟨rfl, ⟨nd, rfl⟩⟩; (try first | exact ⟨rfl, _, World.drewN_drewN _ _ _⟩ | exact ⟨rfl, _, Eq.trans (World.drewN_drewN _ _ _) (congrArg (World.drewN _) (Nat.add_assoc _ _ _))⟩); have p123 : 0 ≤ (a1 : Int) := of_decide_eq_true (by first | (with_reducible assumption) | assumption); have q123 : a1 < (l0.length : Int) := of_decide_eq_true (by first | (with_reducible assumption) | assumption); obtain ⟨ad123, e123, hx123_0⟩ := Kd.at_int HR0.out a1 p123 q123; cases e123; replace p123 := eq_true p123; replace q123 := eq_true q123; have p124 : 0 ≤ (t122 : Int) := of_decide_eq_true (by first | (with_reducible assumption) | assumption); have q124 : t122 < (l0.length : Int) := of_decide_eq_true (by first | (with_reducible assumption) | assumption); obtain ⟨ad124, e124, hx124_0⟩ := Kd.at_int HR0.out t122 p124 q124; obtain rfl : ad123 = ad124 := (by injection e124); replace p124 := eq_true p124; replace q124 := eq_true q124)))
        go_ret
        exact ⟨by first | rfl | (simp; done) | (simp [*]; done), by repeat (first | exact Drawn0.refl _ | apply Drawn0.step)⟩
       ·rw [if_neg c10] at H
        have c10b0 : ((rd l0 t122) == 3) = false := beq_eq_false_iff_ne.mpr c10
        have c10b1 : ((rd l0 t122) != 3) = true := bne_iff_ne.mpr c10
        by_cases c11 : (rd l0 t122) = 2
        ·rw [if_pos c11] at H
         have c11b0 : ((rd l0 t122) == 2) = true := beq_iff_eq.mpr c11
         have c11b1 : ((rd l0 t122) != 2) = false := bne_eq_false_iff_eq.mpr c11
         clear c11
         obtain rfl := Option.some.inj H
         go_enter Tryz.func24, Tryz.ntmps24
         go_wp2_with (first | (go_at_call 26; (with_reducible refine (naskhref13_Behind.calls k _ _ l0 a1 t122 _ ?side1 ?side2 A3.out).mono ?_); (case side1 => repeat (first | exact HR0.out | (with_reducible refine Kd.C_alloc ?_ _) | (with_reducible refine Kd.C_drewN ?_ _) | (with_reducible refine Kd.C_drew ?_))); (case side2 => exact HC0.out); rintro e w' ⟨rfl, ⟨nd, rfl⟩⟩; (try first | exact ⟨rfl, _, World.drewN_drewN _ _ _⟩ | exact ⟨rfl, _, Eq.trans (World.drewN_drewN _ _ _) (congrArg (World.drewN _) (Nat.add_assoc _ _ _))⟩); have p123 : 0 ≤ (a1 : Int) := of_decide_eq_true (by first | (with_reducible assumption) | assumption); have q123 : a1 < (l0.length : Int) := of_decide_eq_true (by first | (with_reducible assumption) | assumption); obtain ⟨ad123, e123, hx123_0⟩ := Kd.at_int HR0.out a1 p123 q123; cases e123; replace p123 := eq_true p123; replace q123 := eq_true q123; have p124 : 0 ≤ (t122 : Int) := of_decide_eq_true (by first | (with_reducible assumption) | assumption); have q124 : t122 < (l0.length : Int) := of_decide_eq_true (by first | (with_reducible assumption) | assumption); obtain ⟨ad124, e124, hx124_0⟩ := Kd.at_int HR0.out t122 p124 q124; obtain rfl : ad123 = ad124 := (by injection e124); replace p124 := eq_true p124; replace q124 := eq_true q124))
         repeat (go_quiet (first | (go_at_call 26; (with_reducible refine (naskhref13_Behind.calls k _ _ l0 a1 t122 _ ?side1 ?side2 A3.out).mono ?_); (case side1 => repeat (first | exact HR0.out | (with_reducible refine Kd.C_alloc ?_ _) | (with_reducible refine Kd.C_drewN ?_ _) | (with_reducible refine Kd.C_drew ?_))); (case side2 => exact HC0.out); rintro e w' ⟨rfl, ⟨nd, rfl⟩⟩; (try first | exact ⟨rfl, _, World.drewN_drewN _ _ _⟩ | exact ⟨rfl, _, Eq.trans (World.drewN_drewN _ _ _) (congrArg (World.drewN _) (Nat.add_assoc _ _ _))⟩); have p123 : 0 ≤ (a1 : Int) := of_decide_eq_true (by first | (with_reducible assumption) | assumption); have q123 : a1 < (l0.length : Int) := of_decide_eq_true (by first | (with_reducible assumption) | assumption); obtain ⟨ad123, e123, hx123_0⟩ := Kd.at_int HR0.out a1 p123 q123; cases e123; replace p123 := eq_true p123; replace q123 := eq_true q123; have p124 : 0 ≤ (t122 : Int) := of_decide_eq_true (by first | (with_reducible assumption) | assumption); have q124 : t122 < (l0.length : Int) := of_decide_eq_true (by first | (with_reducible assumption) | assumption); obtain ⟨ad124, e124, hx124_0⟩ := Kd.at_int HR0.out t122 p124 q124; obtain rfl : ad123 = ad124 := (by injection e124); replace p124 := eq_true p124; replace q124 := eq_true q124)); try go_wp2_with (first | (go_at_call 26; (with_reducible refine (naskhref13_Behind.calls k _ _ l0 a1 t122 _ ?side1 ?side2 A3.out).mono ?_); (case side1 => repeat (first | exact HR0.out | (with_reducible refine Kd.C_alloc ?_ _) | (with_reducible refine Kd.C_drewN ?_ _) | (with_reducible refine Kd.C_drew ?_))); (case side2 => exact HC0.out); rintro e w' ⟨rfl, ⟨nd, rfl⟩⟩; (try first | exact ⟨rfl, _, World.drewN_drewN _ _ _⟩ | exact ⟨rfl, _, Eq.trans (World.drewN_drewN _ _ _) (congrArg (World.drewN _) (Nat.add_assoc _ _ _))⟩); have p123 : 0 ≤ (a1 : Int) := of_decide_eq_true (by first | (with_reducible assumption) | assumption); have q123 : a1 < (l0.length : Int) := of_decide_eq_true (by first | (with_reducible assumption) | assumption); obtain ⟨ad123, e123, hx123_0⟩ := Kd.at_int HR0.out a1 p123 q123; cases e123; replace p123 := eq_true p123; replace q123 := eq_true q123; have p124 : 0 ≤ (t122 : Int) := of_decide_eq_true (by first | (with_reducible assumption) | assumption); have q124 : t122 < (l0.length : Int) := of_decide_eq_true (by first | (with_reducible assumption) | assumption); obtain ⟨ad124, e124, hx124_0⟩ := Kd.at_int HR0.out t122 p124 q124; obtain rfl : ad123 = ad124 := (by injection e124); replace p124 := eq_true p124; replace q124 := eq_true q124)))
         go_ret
         exact ⟨by first | rfl | (simp; done) | (simp [*]; done), by repeat (first | exact Drawn0.refl _ | apply Drawn0.step)⟩
        ·rw [if_neg c11] at H
         have c11b0 : ((rd l0 t122) == 2) = false := beq_eq_false_iff_ne.mpr c11
         have c11b1 : ((rd l0 t122) != 2) = true := bne_iff_ne.mpr c11
         obtain rfl := Option.some.inj H
         go_enter Tryz.func24, Tryz.ntmps24
         go_wp2_with (first | (go_at_call 26; (with_reducible refine (naskhref13_Behind.calls k _ _ l0 a1 t122 _ ?side1 ?side2 A3.out).mono ?_); (case side1 => repeat (first | exact HR0.out | (with_reducible refine Kd.C_alloc ?_ _) | (with_reducible refine Kd.C_drewN ?_ _) | (with_reducible refine Kd.C_drew ?_))); (case side2 => exact HC0.out); rintro e w' ⟨rfl, ⟨nd, rfl⟩⟩; (try first | exact ⟨rfl, _, World.drewN_drewN _ _ _⟩ | exact ⟨rfl, _, Eq.trans (World.drewN_drewN _ _ _) (congrArg (World.drewN _) (Nat.add_assoc _ _ _))⟩); have p123 : 0 ≤ (a1 : Int) := of_decide_eq_true (by first | (with_reducible assumption) | assumption); have q123 : a1 < (l0.length : Int) := of_decide_eq_true (by first | (with_reducible assumption) | assumption); obtain ⟨ad123, e123, hx123_0⟩ := Kd.at_int HR0.out a1 p123 q123; cases e123; replace p123 := eq_true p123; replace q123 := eq_true q123; have p124 : 0 ≤ (t122 : Int) := of_decide_eq_true (by first | (with_reducible assumption) | assumption); have q124 : t122 < (l0.length : Int) := of_decide_eq_true (by first | (with_reducible assumption) | assumption); obtain ⟨ad124, e124, hx124_0⟩ := Kd.at_int HR0.out t122 p124 q124; obtain rfl : ad123 = ad124 := (by injection e124); replace p124 := eq_true p124; replace q124 := eq_true q124))
         repeat (go_quiet (first | (go_at_call 26; (with_reducible refine (naskhref13_Behind.calls k _ _ l0 a1 t122 _ ?side1 ?side2 A3.out).mono ?_); (case side1 => repeat (first | exact HR0.out | (with_reducible refine Kd.C_alloc ?_ _) | (with_reducible refine Kd.C_drewN ?_ _) | (with_reducible refine Kd.C_drew ?_))); (case side2 => exact HC0.out); rintro e w' ⟨rfl, ⟨nd, rfl⟩⟩; (try first | exact ⟨rfl, _, World.drewN_drewN _ _ _⟩ | exact ⟨rfl, _, Eq.trans (World.drewN_drewN _ _ _) (congrArg (World.drewN _) (Nat.add_assoc _ _ _))⟩); have p123 : 0 ≤ (a1 : Int) := of_decide_eq_true (by first | (with_reducible assumption) | assumption); have q123 : a1 < (l0.length : Int) := of_decide_eq_true (by first | (with_reducible assumption) | assumption); obtain ⟨ad123, e123, hx123_0⟩ := Kd.at_int HR0.out a1 p123 q123; cases e123; replace p123 := eq_true p123; replace q123 := eq_true q123; have p124 : 0 ≤ (t122 : Int) := of_decide_eq_true (by first | (with_reducible assumption) | assumption); have q124 : t122 < (l0.length : Int) := of_decide_eq_true (by first | (with_reducible assumption) | assumption); obtain ⟨ad124, e124, hx124_0⟩ := Kd.at_int HR0.out t122 p124 q124; obtain rfl : ad123 = ad124 := (by injection e124); replace p124 := eq_true p124; replace q124 := eq_true q124)); try go_wp2_with (first | (go_at_call 26; (with_reducible refine (naskhref13_Behind.calls k _ _ l0 a1 t122 _ ?side1 ?side2 A3.out).mono ?_); (case side1 => repeat (first | exact HR0.out | (with_reducible refine Kd.C_alloc ?_ _) | (with_reducible refine Kd.C_drewN ?_ _) | (with_reducible refine Kd.C_drew ?_))); (case side2 => exact HC0.out); rintro e w' ⟨rfl, ⟨nd, rfl⟩⟩; (try first | exact ⟨rfl, _, World.drewN_drewN _ _ _⟩ | exact ⟨rfl, _, Eq.trans (World.drewN_drewN _ _ _) (congrArg (World.drewN _) (Nat.add_assoc _ _ _))⟩); have p123 : 0 ≤ (a1 : Int) := of_decide_eq_true (by first | (with_reducible assumption) | assumption); have q123 : a1 < (l0.length : Int) := of_decide_eq_true (by first | (with_reducible assumption) | assumption); obtain ⟨ad123, e123, hx123_0⟩ := Kd.at_int HR0.out a1 p123 q123; cases e123; replace p123 := eq_true p123; replace q123 := eq_true q123; have p124 : 0 ≤ (t122 : Int) := of_decide_eq_true (by first | (with_reducible assumption) | assumption); have q124 : t122 < (l0.length : Int) := of_decide_eq_true (by first | (with_reducible assumption) | assumption); obtain ⟨ad124, e124, hx124_0⟩ := Kd.at_int HR0.out t122 p124 q124; obtain rfl : ad123 = ad124 := (by injection e124); replace p124 := eq_true p124; replace q124 := eq_true q124)))
         go_ret
         exact ⟨by first | rfl | (simp; done) | (simp [*]; done), by repeat (first | exact Drawn0.refl _ | apply Drawn0.step)⟩
      ·rw [if_neg c9] at H
       have c9b0 : ((rd l0 a1) == 3) = false := beq_eq_false_iff_ne.mpr c9
       have c9b1 : ((rd l0 a1) != 3) = true := bne_iff_ne.mpr c9
       by_cases c12 : (rd l0 a1) = 4
       ·rw [if_pos c12] at H
        have c12b0 : ((rd l0 a1) == 4) = true := beq_iff_eq.mpr c12
        have c12b1 : ((rd l0 a1) != 4) = false := bne_eq_false_iff_eq.mpr c12
        clear c12
        by_cases c13 : (rd l0 t122) = 3
        ·rw [if_pos c13] at H
         have c13b0 : ((rd l0 t122) == 3) = true := beq_iff_eq.mpr c13
         have c13b1 : ((rd l0 t122) != 3) = false := bne_eq_false_iff_eq.mpr c13
         clear c13
         obtain rfl := Option.some.inj H
         go_enter Tryz.func24, Tryz.ntmps24
         go_wp2_with (first | (go_at_call 26; (with_reducible refine (naskhref13_Behind.calls k _ _ l0 a1 t122 _ ?side1 ?side2 A3.out).mono ?_); (case side1 => repeat (first | exact HR0.out | (with_reducible refine Kd.C_alloc ?_ _) | (with_reducible refine Kd.C_drewN ?_ _) | (with_reducible refine Kd.C_drew ?_))); (case side2 => exact HC0.out); rintro e w' ⟨rfl, ⟨nd, rfl⟩⟩; (try first | exact ⟨rfl, _, World.drewN_drewN _ _ _⟩ | exact ⟨rfl, _, Eq.trans (World.drewN_drewN _ _ _) (congrArg (World.drewN _) (Nat.add_assoc _ _ _))⟩); have p123 : 0 ≤ (a1 : Int) := of_decide_eq_true (by first | (with_reducible assumption) | assumption); have q123 : a1 < (l0.length : Int) := of_decide_eq_true (by first | (with_reducible assumption) | assumption); obtain ⟨ad123, e123, hx123_0⟩ := Kd.at_int HR0.out a1 p123 q123; cases e123; replace p123 := eq_true p123; replace q123 := eq_true q123; have p124 : 0 ≤ (t122 : Int) := of_decide_eq_true (by first | (with_reducible assumption) | assumption); have q124 : t122 < (l0.length : Int) := of_decide_eq_true (by first | (with_reducible assumption) | assumption); obtain ⟨ad124, e124, hx124_0⟩ := Kd.at_int HR0.out t122 p124 q124; obtain rfl : ad123 = ad124 := (by injection e124); replace p124 := eq_true p124; replace q124 := eq_true q124))
         repeat (go_quiet (first | (go_at_call 26; (with_reducible refine (naskhref13_Behind.calls k _ _ l0 a1 t122 _ ?side1 ?side2 A3.out).mono ?_); (case side1 => repeat (first | exact HR0.out | (with_reducible refine Kd.C_alloc ?_ _) | (with_reducible refine Kd.C_drewN ?_ _) | (with_reducible refine Kd.C_drew ?_))); (case side2 => exact HC0.out); rintro e w' ⟨rfl, ⟨nd, rfl⟩⟩; (try first | exact ⟨rfl, _, World.drewN_drewN _ _ _⟩ | exact ⟨rfl, _, Eq.trans (World.drewN_drewN _ _ _) (congrArg (World.drewN _) (Nat.add_assoc _ _ _))⟩); have p123 : 0 ≤ (a1 : Int) := of_decide_eq_true (by first | (with_reducible assumption) | assumption); have q123 : a1 < (l0.length : Int) := of_decide_eq_true (by first | (with_reducible assumption) | assumption); obtain ⟨ad123, e123, hx123_0⟩ := Kd.at_int HR0.out a1 p123 q123; cases e123; replace p123 := eq_true p123; replace q123 := eq_true q123; have p124 : 0 ≤ (t122 : Int) := of_decide_eq_true (by first | (with_reducible assumption) | assumption); have q124 : t122 < (l0.length : Int) := of_decide_eq_true (by first | (with_reducible assumption) | assumption); obtain ⟨ad124, e124, hx124_0⟩ := Kd.at_int HR0.out t122 p124 q124; obtain rfl : ad123 = ad124 := (by injection e124); replace p124 := eq_true p124; replace q124 := eq_true q124)); try go_wp2_with (first | (go_at_call 26; (with_reducible refine (naskhref13_Behind.calls k _ _ l0 a1 t122 _ ?side1 ?side2 A3.out).mono ?_); (case side1 => repeat (first | exact HR0.out | (with_reducible refine Kd.C_alloc ?_ _) | (with_reducible refine Kd.C_drewN ?_ _) | (with_reducible refine Kd.C_drew ?_))); (case side2 => exact HC0.out); rintro e w' ⟨rfl, ⟨nd, rfl⟩⟩; (try first | exact ⟨rfl, _, World.drewN_drewN _ _ _⟩ | exact ⟨rfl, _, Eq.trans (World.drewN_drewN _ _ _) (congrArg (World.drewN _) (Nat.add_assoc _ _ _))⟩); have p123 : 0 ≤ (a1 : Int) := of_decide_eq_true (by first | (with_reducible assumption) | assumption); have q123 : a1 < (l0.length : Int) := of_decide_eq_true (by first | (with_reducible assumption) | assumption); obtain ⟨ad123, e123, hx123_0⟩ := Kd.at_int HR0.out a1 p123 q123; cases e123; replace p123 := eq_true p123; replace q123 := eq_true q123; have p124 : 0 ≤ (t122 : Int) := of_decide_eq_true (by first | (with_reducible assumption) | assumption); have q124 : t122 < (l0.length : Int) := of_decide_eq_true (by first | (with_reducible assumption) | assumption); obtain ⟨ad124, e124, hx124_0⟩ := Kd.at_int HR0.out t122 p124 q124; obtain rfl : ad123 = ad124 := (by injection e124); replace p124 := eq_true p124; replace q124 := eq_true q124)))
         go_ret
         exact ⟨by first | rfl | (simp; done) | (simp [*]; done), by repeat (first | exact Drawn0.refl _ | apply Drawn0.step)⟩
        ·rw [if_neg c13] at H
         have c13b0 : ((rd l0 t122) == 3) = false := beq_eq_false_iff_ne.mpr c13
         have c13b1 : ((rd l0 t122) != 3) = true := bne_iff_ne.mpr c13
         by_cases c14 : (rd l0 t122) = 2
         ·rw [if_pos c14] at H
          have c14b0 : ((rd l0 t122) == 2) = true := beq_iff_eq.mpr c14
          have c14b1 : ((rd l0 t122) != 2) = false := bne_eq_false_iff_eq.mpr c14
          clear c14
          obtain rfl := Option.some.inj H
          go_enter Tryz.func24, Tryz.ntmps24
          go_wp2_with (first | (go_at_call 26; (with_reducible refine (naskhref13_Behind.calls k _ _ l0 a1 t122 _ ?side1 ?side2 A3.out).mono ?_); (case side1 => repeat (first | exact HR0.out | (with_reducible refine Kd.C_alloc ?_ _) | (with_reducible refine Kd.C_drewN ?_ _) | (with_reducible refine Kd.C_drew ?_))); (case side2 => exact HC0.out); rintro e w' ⟨rfl, ⟨nd, rfl⟩⟩; (try first | exact ⟨rfl, _, World.drewN_drewN _ _ _⟩ | exact ⟨rfl, _, Eq.trans (World.drewN_drewN _ _ _) (congrArg (World.drewN _) (Nat.add_assoc _ _ _))⟩); have p123 : 0 ≤ (a1 : Int) := of_decide_eq_true (by first | (with_reducible assumption) | assumption); have q123 : a1 < (l0.length : Int) := of_decide_eq_true (by first | (with_reducible assumption) | assumption); obtain ⟨ad123, e123, hx123_0⟩ := Kd.at_int HR0.out a1 p123 q123; cases e123; replace p123 := eq_true p123; replace q123 := eq_true q123; have p124 : 0 ≤ (t122 : Int) := of_decide_eq_true (by first | (with_reducible assumption) | assumption); have q124 : t122 < (l0.length : Int) := of_decide_eq_true (by first | (with_reducible assumption) | assumption); obtain ⟨ad124, e124, hx124_0⟩ := Kd.at_int HR0.out t122 p124 q124; obtain rfl : ad123 = ad124 := (by injection e124); replace p124 := eq_true p124; replace q124 := eq_true q124))
          repeat (go_quiet (first | (go_at_call 26; (with_reducible refine (naskhref13_Behind.calls k _ _ l0 a1 t122 _ ?side1 ?side2 A3.out).mono ?_); (case side1 => repeat (first | exact HR0.out | (with_reducible refine Kd.C_alloc ?_ _) | (with_reducible refine Kd.C_drewN ?_ _) | (with_reducible refine Kd.C_drew ?_))); (case side2 => exact HC0.out); rintro e w' ⟨rfl, ⟨nd, rfl⟩⟩; (try first | exact ⟨rfl, _, World.drewN_drewN _ _ _⟩ | exact ⟨rfl, _, Eq.trans (World.drewN_drewN _ _ _) (congrArg (World.drewN _) (Nat.add_assoc _ _ _))⟩); have p123 : 0 ≤ (a1 : Int) := of_decide_eq_true (by first | (with_reducible assumption) | assumption); have q123 : a1 < (l0.length : Int) := of_decide_eq_true (by first | (with_reducible assumption) | assumption); obtain ⟨ad123, e123, hx123_0⟩ := Kd.at_int HR0.out a1 p123 q123; cases e123; replace p123 := eq_true p123; replace q123 := eq_true q123; have p124 : 0 ≤ (t122 : Int) := of_decide_eq_true (by first | (with_reducible assumption) | assumption); have q124 : t122 < (l0.length : Int) := of_decide_eq_true (by first | (with_reducible assumption) | assumption); obtain ⟨ad124, e124, hx124_0⟩ := Kd.at_int HR0.out t122 p124 q124; obtain rfl : ad123 = ad124 := (by injection e124); replace p124 := eq_true p124; replace q124 := eq_true q124)); try go_wp2_with (first | (go_at_call 26; (with_reducible refine (naskhref13_Behind.calls k _ _ l0 a1 t122 _ ?side1 ?side2 A3.out).mono ?_); (case side1 => repeat (first | exact HR0.out | (with_reducible refine Kd.C_alloc ?_ _) | (with_reducible refine Kd.C_drewN ?_ _) | (with_reducible refine Kd.C_drew ?_))); (case side2 => exact HC0.out); rintro e w' ⟨rfl, ⟨nd, rfl⟩⟩; (try first | exact ⟨rfl, _, World.drewN_drewN _ _ _⟩ | exact ⟨rfl, _, Eq.trans (World.drewN_drewN _ _ _) (congrArg (World.drewN _) (Nat.add_assoc _ _ _))⟩); have p123 : 0 ≤ (a1 : Int) := of_decide_eq_true (by first | (with_reducible assumption) | assumption); have q123 : a1 < (l0.length : Int) := of_decide_eq_true (by first | (with_reducible assumption) | assumption); obtain ⟨ad123, e123, hx123_0⟩ := Kd.at_int HR0.out a1 p123 q123; cases e123; replace p123 := eq_true p123; replace q123 := eq_true q123; have p124 : 0 ≤ (t122 : Int) := of_decide_eq_true (by first | (with_reducible assumption) | assumption); have q124 : t122 < (l0.length : Int) := of_decide_eq_true (by first | (with_reducible assumption) | assumption); obtain ⟨ad124, e124, hx124_0⟩ := Kd.at_int HR0.out t122 p124 q124; obtain rfl : ad123 = ad124 := (by injection e124); replace p124 := eq_true p124; replace q124 := eq_true q124)))
          go_ret
          exact ⟨by first | rfl | (simp; done) | (simp [*]; done), by repeat (first | exact Drawn0.refl _ | apply Drawn0.step)⟩
         ·rw [if_neg c14] at H
          have c14b0 : ((rd l0 t122) == 2) = false := beq_eq_false_iff_ne.mpr c14
          have c14b1 : ((rd l0 t122) != 2) = true := bne_iff_ne.mpr c14
          obtain rfl := Option.some.inj H
          go_enter Tryz.func24, Tryz.ntmps24
          go_wp2_with (first | (go_at_call 26; (with_reducible refine (naskhref13_Behind.calls k _ _ l0 a1 t122 _ ?side1 ?side2 A3.out).mono ?_); (case side1 => repeat (first | exact HR0.out | (with_reducible refine Kd.C_alloc ?_ _) | (with_reducible refine Kd.C_drewN ?_ _) | (with_reducible refine Kd.C_drew ?_))); (case side2 => exact HC0.out); rintro e w' ⟨rfl, ⟨nd, rfl⟩⟩; (try first | exact ⟨rfl, _, World.drewN_drewN _ _ _⟩ | exact ⟨rfl, _, Eq.trans (World.drewN_drewN _ _ _) (congrArg (World.drewN _) (Nat.add_assoc _ _ _))⟩); have p123 : 0 ≤ (a1 : Int) := of_decide_eq_true (by first | (with_reducible assumption) | assumption); have q123 : a1 < (l0.length : Int) := of_decide_eq_true (by first | (with_reducible assumption) | assumption); obtain ⟨ad123, e123, hx123_0⟩ := Kd.at_int HR0.out a1 p123 q123; cases e123; replace p123 := eq_true p123; replace q123 := eq_true q123; have p124 : 0 ≤ (t122 : Int) := of_decide_eq_true (by first | (with_reducible assumption) | assumption); have q124 : t122 < (l0.length : Int) := of_decide_eq_true (by first | (with_reducible assumption) | assumption); obtain ⟨ad124, e124, hx124_0⟩ := Kd.at_int HR0.out t122 p124 q124; obtain rfl : ad123 = ad124 := (by injection e124); replace p124 := eq_true p124; replace q124 := eq_true q124))
          repeat (go_quiet (first | (go_at_call 26; (with_reducible refine (naskhref13_Behind.calls k _ _ l0 a1 t122 _ ?side1 ?side2 A3.out).mono ?_); (case side1 => repeat (first | exact HR0.out | (with_reducible refine Kd.C_alloc ?_ _) | (with_reducible refine Kd.C_drewN ?_ _) | (with_reducible refine Kd.C_drew ?_))); (case side2 => exact HC0.out); rintro e w' ⟨rfl, ⟨nd, rfl⟩⟩; (try first | exact ⟨rfl, _, World.drewN_drewN _ _ _⟩ | exact ⟨rfl, _, Eq.trans (World.drewN_drewN _ _ _) (congrArg (World.drewN _) (Nat.add_assoc _ _ _))⟩); have p123 : 0 ≤ (a1 : Int) := of_decide_eq_true (by first | (with_reducible assumption) | assumption); have q123 : a1 < (l0.length : Int) := of_decide_eq_true (by first | (with_reducible assumption) | assumption); obtain ⟨ad123, e123, hx123_0⟩ := Kd.at_int HR0.out a1 p123 q123; cases e123; replace p123 := eq_true p123; replace q123 := eq_true q123; have p124 : 0 ≤ (t122 : Int) := of_decide_eq_true (by first | (with_reducible assumption) | assumption); have q124 : t122 < (l0.length : Int) := of_decide_eq_true (by first | (with_reducible assumption) | assumption); obtain ⟨ad124, e124, hx124_0⟩ := Kd.at_int HR0.out t122 p124 q124; obtain rfl : ad123 = ad124 := (by injection e124); replace p124 := eq_true p124; replace q124 := eq_true q124)); try go_wp2_with (first | (go_at_call 26; (with_reducible refine (naskhref13_Behind.calls k _ _ l0 a1 t122 _ ?side1 ?side2 A3.out).mono ?_); (case side1 => repeat (first | exact HR0.out | (with_reducible refine Kd.C_alloc ?_ _) | (with_reducible refine Kd.C_drewN ?_ _) | (with_reducible refine Kd.C_drew ?_))); (case side2 => exact HC0.out); rintro e w' ⟨rfl, ⟨nd, rfl⟩⟩; (try first | exact ⟨rfl, _, World.drewN_drewN _ _ _⟩ | exact ⟨rfl, _, Eq.trans (World.drewN_drewN _ _ _) (congrArg (World.drewN _) (Nat.add_assoc _ _ _))⟩); have p123 : 0 ≤ (a1 : Int) := of_decide_eq_true (by first | (with_reducible assumption) | assumption); have q123 : a1 < (l0.length : Int) := of_decide_eq_true (by first | (with_reducible assumption) | assumption); obtain ⟨ad123, e123, hx123_0⟩ := Kd.at_int HR0.out a1 p123 q123; cases e123; replace p123 := eq_true p123; replace q123 := eq_true q123; have p124 : 0 ≤ (t122 : Int) := of_decide_eq_true (by first | (with_reducible assumption) | assumption); have q124 : t122 < (l0.length : Int) := of_decide_eq_true (by first | (with_reducible assumption) | assumption); obtain ⟨ad124, e124, hx124_0⟩ := Kd.at_int HR0.out t122 p124 q124; obtain rfl : ad123 = ad124 := (by injection e124); replace p124 := eq_true p124; replace q124 := eq_true q124)))
          go_ret
          exact ⟨by first | rfl | (simp; done) | (simp [*]; done), by repeat (first | exact Drawn0.refl _ | apply Drawn0.step)⟩
       ·rw [if_neg c12] at H
        have c12b0 : ((rd l0 a1) == 4) = false := beq_eq_false_iff_ne.mpr c12
        have c12b1 : ((rd l0 a1) != 4) = true := bne_iff_ne.mpr c12
        by_cases c15 : (rd l0 a1) = 5
        ·rw [if_pos c15] at H
         have c15b0 : ((rd l0 a1) == 5) = true := beq_iff_eq.mpr c15
         have c15b1 : ((rd l0 a1) != 5) = false := bne_eq_false_iff_eq.mpr c15
         clear c15
         by_cases c16 : (rd l0 t122) = 3
         ·rw [if_pos c16] at H
          have c16b0 : ((rd l0 t122) == 3) = true := beq_iff_eq.mpr c16
          have c16b1 : ((rd l0 t122) != 3) = false := bne_eq_false_iff_eq.mpr c16
          clear c16
          obtain rfl := Option.some.inj H
          go_enter Tryz.func24, Tryz.ntmps24
          go_wp2_with (first | (go_at_call 26; (with_reducible refine (naskhref13_Behind.calls k _ _ l0 a1 t122 _ ?side1 ?side2 A3.out).mono ?_); (case side1 => repeat (first | exact HR0.out | (with_reducible refine Kd.C_alloc ?_ _) | (with_reducible refine Kd.C_drewN ?_ _) | (with_reducible refine Kd.C_drew ?_))); (case side2 => exact HC0.out); rintro e w' ⟨rfl, ⟨nd, rfl⟩⟩; (try first | exact ⟨rfl, _, World.drewN_drewN _ _ _⟩ | exact ⟨rfl, _, Eq.trans (World.drewN_drewN _ _ _) (congrArg (World.drewN _) (Nat.add_assoc _ _ _))⟩); have p123 : 0 ≤ (a1 : Int) := of_decide_eq_true (by first | (with_reducible assumption) | assumption); have q123 : a1 < (l0.length : Int) := of_decide_eq_true (by first | (with_reducible assumption) | assumption); obtain ⟨ad123, e123, hx123_0⟩ := Kd.at_int HR0.out a1 p123 q123; cases e123; replace p123 := eq_true p123; replace q123 := eq_true q123; have p124 : 0 ≤ (t122 : Int) := of_decide_eq_true (by first | (with_reducible assumption) | assumption); have q124 : t122 < (l0.length : Int) := of_decide_eq_true (by first | (with_reducible assumption) | assumption); obtain ⟨ad124, e124, hx124_0⟩ := Kd.at_int HR0.out t122 p124 q124; obtain rfl : ad123 = ad124 := (by injection e124); replace p124 := eq_true p124; replace q124 := eq_true q124))
          repeat (go_quiet (first | (go_at_call 26; (with_reducible refine (naskhref13_Behind.calls k _ _ l0 a1 t122 _ ?side1 ?side2 A3.out).mono ?_); (case side1 => repeat (first | exact HR0.out | (with_reducible refine Kd.C_alloc ?_ _) | (with_reducible refine Kd.C_drewN ?_ _) | (with_reducible refine Kd.C_drew ?_))); (case side2 => exact HC0.out); rintro e w' ⟨rfl, ⟨nd, rfl⟩⟩; (try first | exact ⟨rfl, _, World.drewN_drewN _ _ _⟩ | exact ⟨rfl, _, Eq.trans (World.drewN_drewN _ _ _) (congrArg (World.drewN _) (Nat.add_assoc _ _ _))⟩); have p123 : 0 ≤ (a1 : Int) := of_decide_eq_true (by first | (with_reducible assumption) | assumption); have q123 : a1 < (l0.length : Int) := of_decide_eq_true (by first | (with_reducible assumption) | assumption); obtain ⟨ad123, e123, hx123_0⟩ := Kd.at_int HR0.out a1 p123 q123; cases e123; replace p123 := eq_true p123; replace q123 := eq_true q123; have p124 : 0 ≤ (t122 : Int) := of_decide_eq_true (by first | (with_reducible assumption) | assumption); have q124 : t122 < (l0.length : Int) := of_decide_eq_true (by first | (with_reducible assumption) | assumption); obtain ⟨ad124, e124, hx124_0⟩ := Kd.at_int HR0.out t122 p124 q124; obtain rfl : ad123 = ad124 := (by injection e124); replace p124 := eq_true p124; replace q124 := eq_true q124)); try go_wp2_with (first | (go_at_call 26; (with_reducible refine (naskhref13_Behind.calls k _ _ l0 a1 t122 _ ?side1 ?side2 A3.out).mono ?_); (case side1 => repeat (first | exact HR0.out | (with_reducible refine Kd.C_alloc ?_ _) | (with_reducible refine Kd.C_drewN ?_ _) | (with_reducible refine Kd.C_drew ?_))); (case side2 => exact HC0.out); rintro e w' ⟨rfl, ⟨nd, rfl⟩⟩; (try first | exact ⟨rfl, _, World.drewN_drewN _ _ _⟩ | exact ⟨rfl, _, Eq.trans (World.drewN_drewN _ _ _) (congrArg (World.drewN _) (Nat.add_assoc _ _ _))⟩); have p123 : 0 ≤ (a1 : Int) := of_decide_eq_true (by first | (with_reducible assumption) | assumption); have q123 : a1 < (l0.length : Int) := of_decide_eq_true (by first | (with_reducible assumption) | assumption); obtain ⟨ad123, e123, hx123_0⟩ := Kd.at_int HR0.out a1 p123 q123; cases e123; replace p123 := eq_true p123; replace q123 := eq_true q123; have p124 : 0 ≤ (t122 : Int) := of_decide_eq_true (by first | (with_reducible assumption) | assumption); have q124 : t122 < (l0.length : Int) := of_decide_eq_true (by first | (with_reducible assumption) | assumption); obtain ⟨ad124, e124, hx124_0⟩ := Kd.at_int HR0.out t122 p124 q124; obtain rfl : ad123 = ad124 := (by injection e124); replace p124 := eq_true p124; replace q124 := eq_true q124)))
          go_ret
          exact ⟨by first | rfl | (simp; done) | (simp [*]; done), by repeat (first | exact Drawn0.refl _ | apply Drawn0.step)⟩
         ·rw [if_neg c16] at H
          have c16b0 : ((rd l0 t122) == 3) = false := beq_eq_false_iff_ne.mpr c16
          have c16b1 : ((rd l0 t122) != 3) = true := bne_iff_ne.mpr c16
          by_cases c17 : (rd l0 t122) = 2
          ·rw [if_pos c17] at H
           have c17b0 : ((rd l0 t122) == 2) = true := beq_iff_eq.mpr c17
           have c17b1 : ((rd l0 t122) != 2) = false := bne_eq_false_iff_eq.mpr c17
           clear c17
           obtain rfl := Option.some.inj H
           go_enter Tryz.func24, Tryz.ntmps24
           go_wp2_with (first | (go_at_call 26; (with_reducible refine (naskhref13_Behind.calls k _ _ l0 a1 t122 _ ?side1 ?side2 A3.out).mono ?_); (case side1 => repeat (first | exact HR0.out | (with_reducible refine Kd.C_alloc ?_ _) | (with_reducible refine Kd.C_drewN ?_ _) | (with_reducible refine Kd.C_drew ?_))); (case side2 => exact HC0.out); rintro e w' ⟨rfl, ⟨nd, rfl⟩⟩; (try first | exact ⟨rfl, _, World.drewN_drewN _ _ _⟩ | exact ⟨rfl, _, Eq.trans (World.drewN_drewN _ _ _) (congrArg (World.drewN _) (Nat.add_assoc _ _ _))⟩); have p123 : 0 ≤ (a1 : Int) := of_decide_eq_true (by first | (with_reducible assumption) | assumption); have q123 : a1 < (l0.length : Int) := of_decide_eq_true (by first | (with_reducible assumption) | assumption); obtain ⟨ad123, e123, hx123_0⟩ := Kd.at_int HR0.out a1 p123 q123; cases e123; replace p123 := eq_true p123; replace q123 := eq_true q123; have p124 : 0 ≤ (t122 : Int) := of_decide_eq_true (by first | (with_reducible assumption) | assumption); have q124 : t122 < (l0.length : Int) := of_decide_eq_true (by first | (with_reducible assumption) | assumption); obtain ⟨ad124, e124, hx124_0⟩ := Kd.at_int HR0.out t122 p124 q124; obtain rfl : ad123 = ad124 := (by injection e124); replace p124 := eq_true p124; replace q124 := eq_true q124))
           repeat (go_quiet (first | (go_at_call 26; (with_reducible refine (naskhref13_Behind.calls k _ _ l0 a1 t122 _ ?side1 ?side2 A3.out).mono ?_); (case side1 => repeat (first | exact HR0.out | (with_reducible refine Kd.C_alloc ?_ _) | (with_reducible refine Kd.C_drewN ?_ _) | (with_reducible refine Kd.C_drew ?_))); (case side2 => exact HC0.out); rintro e w' ⟨rfl, ⟨nd, rfl⟩⟩; (try first | exact ⟨rfl, _, World.drewN_drewN _ _ _⟩ | exact ⟨rfl, _, Eq.trans (World.drewN_drewN _ _ _) (congrArg (World.drewN _) (Nat.add_assoc _ _ _))⟩); have p123 : 0 ≤ (a1 : Int) := of_decide_eq_true (by first | (with_reducible assumption) | assumption); have q123 : a1 < (l0.length : Int) := of_decide_eq_true (by first | (with_reducible assumption) | assumption); obtain ⟨ad123, e123, hx123_0⟩ := Kd.at_int HR0.out a1 p123 q123; cases e123; replace p123 := eq_true p123; replace q123 := eq_true q123; have p124 : 0 ≤ (t122 : Int) := of_decide_eq_true (by first | (with_reducible assumption) | assumption); have q124 : t122 < (l0.length : Int) := of_decide_eq_true (by first | (with_reducible assumption) | assumption); obtain ⟨ad124, e124, hx124_0⟩ := Kd.at_int HR0.out t122 p124 q124; obtain rfl : ad123 = ad124 := (by injection e124); replace p124 := eq_true p124; replace q124 := eq_true q124)); try go_wp2_with (first | (go_at_call 26; (with_reducible refine (naskhref13_Behind.calls k _ _ l0 a1 t122 _ ?side1 ?side2 A3.out).mono ?_); (case side1 => repeat (first | exact HR0.out | (with_reducible refine Kd.C_alloc ?_ _) | (with_reducible refine Kd.C_drewN ?_ _) | (with_reducible refine Kd.C_drew ?_))); (case side2 => exact HC0.out); rintro e w' ⟨rfl, ⟨nd, rfl⟩⟩; (try first | exact ⟨rfl, _, World.drewN_drewN _ _ _⟩ | exact ⟨rfl, _, Eq.trans (World.drewN_drewN _ _ _) (congrArg (World.drewN _) (Nat.add_assoc _ _ _))⟩); have p123 : 0 ≤ (a1 : Int) := of_decide_eq_true (by first | (with_reducible assumption) | assumption); have q123 : a1 < (l0.length : Int) := of_decide_eq_true (by first | (with_reducible assumption) | assumption); obtain ⟨ad123, e123, hx123_0⟩ := Kd.at_int HR0.out a1 p123 q123; cases e123; replace p123 := eq_true p123; replace q123 := eq_true q123; have p124 : 0 ≤ (t122 : Int) := of_decide_eq_true (by first | (with_reducible assumption) | assumption); have q124 : t122 < (l0.length : Int) := of_decide_eq_true (by first | (with_reducible assumption) | assumption); obtain ⟨ad124, e124, hx124_0⟩ := Kd.at_int HR0.out t122 p124 q124; obtain rfl : ad123 = ad124 := (by injection e124); replace p124 := eq_true p124; replace q124 := eq_true q124)))
           go_ret
           exact ⟨by first | rfl | (simp; done) | (simp [*]; done), by repeat (first | exact Drawn0.refl _ | apply Drawn0.step)⟩
          ·rw [if_neg c17] at H
           have c17b0 : ((rd l0 t122) == 2) = false := beq_eq_false_iff_ne.mpr c17
           have c17b1 : ((rd l0 t122) != 2) = true := bne_iff_ne.mpr c17
           obtain rfl := Option.some.inj H
           go_enter Tryz.func24, Tryz.ntmps24
           go_wp2_with (first | (go_at_call 26; (with_reducible refine (naskhref13_Behind.calls k _ _ l0 a1 t122 _ ?side1 ?side2 A3.out).mono ?_); (case side1 => repeat (first | exact HR0.out | (with_reducible refine Kd.C_alloc ?_ _) | (with_reducible refine Kd.C_drewN ?_ _) | (with_reducible refine Kd.C_drew ?_))); (case side2 => exact HC0.out); rintro e w' ⟨rfl, ⟨nd, rfl⟩⟩; (try first | exact ⟨rfl, _, World.drewN_drewN _ _ _⟩ | exact ⟨rfl, _, Eq.trans (World.drewN_drewN _ _ _) (congrArg (World.drewN _) (Nat.add_assoc _ _ _))⟩); have p123 : 0 ≤ (a1 : Int) := of_decide_eq_true (by first | (with_reducible assumption) | assumption); have q123 : a1 < (l0.length : Int) := of_decide_eq_true (by first | (with_reducible assumption) | assumption); obtain ⟨ad123, e123, hx123_0⟩ := Kd.at_int HR0.out a1 p123 q123; cases e123; replace p123 := eq_true p123; replace q123 := eq_true q123; have p124 : 0 ≤ (t122 : Int) := of_decide_eq_true (by first | (with_reducible assumption) | assumption); have q124 : t122 < (l0.length : Int) := of_decide_eq_true (by first | (with_reducible assumption) | assumption); obtain ⟨ad124, e124, hx124_0⟩ := Kd.at_int HR0.out t122 p124 q124; obtain rfl : ad123 = ad124 := (by injection e124); replace p124 := eq_true p124; replace q124 := eq_true q124))
           repeat (go_quiet (first | (go_at_call 26; (with_reducible refine (naskhref13_Behind.calls k _ _ l0 a1 t122 _ ?side1 ?side2 A3.out).mono ?_); (case side1 => repeat (first | exact HR0.out | (with_reducible refine Kd.C_alloc ?_ _) | (with_reducible refine Kd.C_drewN ?_ _) | (with_reducible refine Kd.C_drew ?_))); (case side2 => exact HC0.out); rintro e w' ⟨rfl, ⟨nd, rfl⟩⟩; (try first | exact ⟨rfl, _, World.drewN_drewN _ _ _⟩ | exact ⟨rfl, _, Eq.trans (World.drewN_drewN _ _ _) (congrArg (World.drewN _) (Nat.add_assoc _ _ _))⟩); have p123 : 0 ≤ (a1 : Int) := of_decide_eq_true (by first | (with_reducible assumption) | assumption); have q123 : a1 < (l0.length : Int) := of_decide_eq_true (by first | (with_reducible assumption) | assumption); obtain ⟨ad123, e123, hx123_0⟩ := Kd.at_int HR0.out a1 p123 q123; cases e123; replace p123 := eq_true p123; replace q123 := eq_true q123; have p124 : 0 ≤ (t122 : Int) := of_decide_eq_true (by first | (with_reducible assumption) | assumption); have q124 : t122 < (l0.length : Int) := of_decide_eq_true (by first | (with_reducible assumption) | assumption); obtain ⟨ad124, e124, hx124_0⟩ := Kd.at_int HR0.out t122 p124 q124; obtain rfl : ad123 = ad124 := (by injection e124); replace p124 := eq_true p124; replace q124 := eq_true q124)); try go_wp2_with (first | (go_at_call 26; (with_reducible refine (naskhref13_Behind.calls k _ _ l0 a1 t122 _ ?side1 ?side2 A3.out).mono ?_); (case side1 => repeat (first | exact HR0.out | (with_reducible refine Kd.C_alloc ?_ _) | (with_reducible refine Kd.C_drewN ?_ _) | (with_reducible refine Kd.C_drew ?_))); (case side2 => exact HC0.out); rintro e w' ⟨rfl, ⟨nd, rfl⟩⟩; (try first | exact ⟨rfl, _, World.drewN_drewN _ _ _⟩ | exact ⟨rfl, _, Eq.trans (World.drewN_drewN _ _ _) (congrArg (World.drewN _) (Nat.add_assoc _ _ _))⟩); have p123 : 0 ≤ (a1 : Int) := of_decide_eq_true (by first | (with_reducible assumption) | assumption); have q123 : a1 < (l0.length : Int) := of_decide_eq_true (by first | (with_reducible assumption) | assumption); obtain ⟨ad123, e123, hx123_0⟩ := Kd.at_int HR0.out a1 p123 q123; cases e123; replace p123 := eq_true p123; replace q123 := eq_true q123; have p124 : 0 ≤ (t122 : Int) := of_decide_eq_true (by first | (with_reducible assumption) | assumption); have q124 : t122 < (l0.length : Int) := of_decide_eq_true (by first | (with_reducible assumption) | assumption); obtain ⟨ad124, e124, hx124_0⟩ := Kd.at_int HR0.out t122 p124 q124; obtain rfl : ad123 = ad124 := (by injection e124); replace p124 := eq_true p124; replace q124 := eq_true q124)))
           go_ret
           exact ⟨by first | rfl | (simp; done) | (simp [*]; done), by repeat (first | exact Drawn0.refl _ | apply Drawn0.step)⟩
        ·rw [if_neg c15] at H
         have c15b0 : ((rd l0 a1) == 5) = false := beq_eq_false_iff_ne.mpr c15
         have c15b1 : ((rd l0 a1) != 5) = true := bne_iff_ne.mpr c15
         obtain rfl := Option.some.inj H
         go_enter Tryz.func24, Tryz.ntmps24
         go_wp2_with (first | (go_at_call 26; (with_reducible refine (naskhref13_Behind.calls k _ _ l0 a1 t122 _ ?side1 ?side2 A3.out).mono ?_); (case side1 => repeat (first | exact HR0.out | (with_reducible refine Kd.C_alloc ?_ _) | (with_reducible refine Kd.C_drewN ?_ _) | (with_reducible refine Kd.C_drew ?_))); (case side2 => exact HC0.out); rintro e w' ⟨rfl, ⟨nd, rfl⟩⟩; (try first | exact ⟨rfl, _, World.drewN_drewN _ _ _⟩ | exact ⟨rfl, _, Eq.trans (World.drewN_drewN _ _ _) (congrArg (World.drewN _) (Nat.add_assoc _ _ _))⟩); have p123 : 0 ≤ (a1 : Int) := of_decide_eq_true (by first | (with_reducible assumption) | assumption); have q123 : a1 < (l0.length : Int) := of_decide_eq_true (by first | (with_reducible assumption) | assumption); obtain ⟨ad123, e123, hx123_0⟩ := Kd.at_int HR0.out a1 p123 q123; cases e123; replace p123 := eq_true p123; replace q123 := eq_true q123; have p124 : 0 ≤ (t122 : Int) := of_decide_eq_true (by first | (with_reducible assumption) | assumption); have q124 : t122 < (l0.length : Int) := of_decide_eq_true (by first | (with_reducible assumption) | assumption); obtain ⟨ad124, e124, hx124_0⟩ := Kd.at_int HR0.out t122 p124 q124; obtain rfl : ad123 = ad124 := (by injection e124); replace p124 := eq_true p124; replace q124 := eq_true q124))
         repeat (go_quiet (first | (go_at_call 26; (with_reducible refine (naskhref13_Behind.calls k _ _ l0 a1 t122 _ ?side1 ?side2 A3.out).mono ?_); (case side1 => repeat (first | exact HR0.out | (with_reducible refine Kd.C_alloc ?_ _) | (with_reducible refine Kd.C_drewN ?_ _) | (with_reducible refine Kd.C_drew ?_))); (case side2 => exact HC0.out); rintro e w' ⟨rfl, ⟨nd, rfl⟩⟩; (try first | exact ⟨rfl, _, World.drewN_drewN _ _ _⟩ | exact ⟨rfl, _, Eq.trans (World.drewN_drewN _ _ _) (congrArg (World.drewN _) (Nat.add_assoc _ _ _))⟩); have p123 : 0 ≤ (a1 : Int) := of_decide_eq_true (by first | (with_reducible assumption) | assumption); have q123 : a1 < (l0.length : Int) := of_decide_eq_true (by first | (with_reducible assumption) | assumption); obtain ⟨ad123, e123, hx123_0⟩ := Kd.at_int HR0.out a1 p123 q123; cases e123; replace p123 := eq_true p123; replace q123 := eq_true q123; have p124 : 0 ≤ (t122 : Int) := of_decide_eq_true (by first | (with_reducible assumption) | assumption); have q124 : t122 < (l0.length : Int) := of_decide_eq_true (by first | (with_reducible assumption) | assumption); obtain ⟨ad124, e124, hx124_0⟩ := Kd.at_int HR0.out t122 p124 q124; obtain rfl : ad123 = ad124 := (by injection e124); replace p124 := eq_true p124; replace q124 := eq_true q124)); try go_wp2_with (first | (go_at_call 26; (with_reducible refine (naskhref13_Behind.calls k _ _ l0 a1 t122 _ ?side1 ?side2 A3.out).mono ?_); (case side1 => repeat (first | exact HR0.out | (with_reducible refine Kd.C_alloc ?_ _) | (with_reducible refine Kd.C_drewN ?_ _) | (with_reducible refine Kd.C_drew ?_))); (case side2 => exact HC0.out); rintro e w' ⟨rfl, ⟨nd, rfl⟩⟩; (try first | exact ⟨rfl, _, World.drewN_drewN _ _ _⟩ | exact ⟨rfl, _, Eq.trans (World.drewN_drewN _ _ _) (congrArg (World.drewN _) (Nat.add_assoc _ _ _))⟩); have p123 : 0 ≤ (a1 : Int) := of_decide_eq_true (by first | (with_reducible assumption) | assumption); have q123 : a1 < (l0.length : Int) := of_decide_eq_true (by first | (with_reducible assumption) | assumption); obtain ⟨ad123, e123, hx123_0⟩ := Kd.at_int HR0.out a1 p123 q123; cases e123; replace p123 := eq_true p123; replace q123 := eq_true q123; have p124 : 0 ≤ (t122 : Int) := of_decide_eq_true (by first | (with_reducible assumption) | assumption); have q124 : t122 < (l0.length : Int) := of_decide_eq_true (by first | (with_reducible assumption) | assumption); obtain ⟨ad124, e124, hx124_0⟩ := Kd.at_int HR0.out t122 p124 q124; obtain rfl : ad123 = ad124 := (by injection e124); replace p124 := eq_true p124; replace q124 := eq_true q124)))
         go_ret
         exact ⟨by first | rfl | (simp; done) | (simp [*]; done), by repeat (first | exact Drawn0.refl _ | apply Drawn0.step)⟩
     ·rw [if_neg c8] at H
      exact absurd H (by simp)
    ·rw [if_neg c7] at H
     exact absurd H (by simp)
   ·rw [if_neg c6] at H
    exact absurd H (by simp)
  ·rw [if_neg c5] at H
   exact absurd H (by simp)
end Go.Proofs.YtemhccjjcioodaaGreat.PJoinForms
end
section
namespace Go.Proofs.YtemhccjjcioodaaGreat.PJoinForms
open Go.RowKit Go.Proofs.YtemhccjjcioodaaGreatW.PrintWords Go.Proofs.YtemhccjjcioodaaGreatW.PrintLast Go.Proofs.YtemhccjjcioodaaGreatW.PrintMore
attribute [local go_sem] max2_int min2_int max_two min_two max_three min_three max_four min_four   -- for this text's walks alone
mutual
def naskhref13_Forms.l0 : Nat → List Int → List Int → Int → Option (List Int)
 | 0, _, _, _ => none
 | k + 1, x0, x3, x4 => if x4 < (x0.length : Int) then (if 0 ≤ x4 then ((naskhref13_Ahead.f k x0 x4).bind fun t126 => ((naskhref13_Joined.f k x0 t126).bind fun t127 => (if (rd x0 x4) = 3 then (naskhref13_Forms.j1 k x0 x3 x4 t127 0 true) else (if (rd x0 x4) = 2 then (naskhref13_Forms.j1 k x0 x3 x4 t127 0 true) else (naskhref13_Forms.j1 k x0 x3 x4 t127 0 ((rd x0 x4) == 4)))))) else (none)) else (some x3)
def naskhref13_Forms.j1 : Nat → List Int → List Int → Int → Bool → Int → Bool → Option (List Int)
 | 0, _, _, _, _, _, _ => none
 | k + 1, x0, x3, x4, x6, x7, x32 => if x32 = true then (if x6 = true then ((naskhref13_Joined.f k x0 x4).bind fun t128 => (naskhref13_Forms.j2 k x0 x3 x4 x6 t128)) else (naskhref13_Forms.j2 k x0 x3 x4 x6 false)) else (if x3.length < 17592186044416 then (naskhref13_Forms.l0 k x0 (x3 ++ [x7]) (wrap64 (x4 + 1))) else (none))
def naskhref13_Forms.j2 : Nat → List Int → List Int → Int → Bool → Bool → Option (List Int)
 | 0, _, _, _, _, _ => none
 | k + 1, x0, x3, x4, x6, x33 => if x33 = true then (if x3.length < 17592186044416 then (naskhref13_Forms.l0 k x0 (x3 ++ [4]) (wrap64 (x4 + 1))) else (none)) else (if x6 = true then (if x3.length < 17592186044416 then (naskhref13_Forms.l0 k x0 (x3 ++ [2]) (wrap64 (x4 + 1))) else (none)) else ((naskhref13_Joined.f k x0 x4).bind fun t135 => (if t135 = true then (if x3.length < 17592186044416 then (naskhref13_Forms.l0 k x0 (x3 ++ [3]) (wrap64 (x4 + 1))) else (none)) else (if x3.length < 17592186044416 then (naskhref13_Forms.l0 k x0 (x3 ++ [1]) (wrap64 (x4 + 1))) else (none)))))
end
def naskhref13_Forms.f (k : Nat) (l0 : List Int) : Option (List Int) := naskhref13_Forms.l0 k l0 ([] : List Int) 0
end Go.Proofs.YtemhccjjcioodaaGreat.PJoinForms
end
section
namespace Go.Proofs.YtemhccjjcioodaaGreat.PureJoin
open Go.RowKit Go.Proofs.YtemhccjjcioodaaGreat.PJoinForms Go.Proofs.YtemhccjjcioodaaGreatW.PrintWords Go.Proofs.YtemhccjjcioodaaGreat.U Go.Proofs.YtemhccjjcioodaaGreat.UJoin
theorem there_eq (xs : List Int) (i : Int) : join_there.f xs i = some (decide (0 ≤ i ∧ i < xs.length)) := by
 unfold join_there.f
 by_cases h : i ≥ 0
 ·rw [if_pos h]
  by_cases h2 : i < xs.length <;> simp [h, h2]
 ·rw [if_neg h]
  have : ¬ (0 ≤ i ∧ i < xs.length) := by omega
  simp [this]
theorem walk_up (xs : List Int) (hm : xs.length ≤ 1000000) (n : Nat) : ∀ k : Nat, k + n = xs.length → Ev (fun f => join_walk.l0 f xs k 1) (up xs k n) := by
 induction n with
 | zero =>
  intro k hk
  refine Ev.step (fun f => by rw [join_walk.l0]) ?_
  refine ev_bindc (there_eq xs k) ?_
  rw [decide_eq_false (by omega)]
  exact ev_neg (by simp) (ev_now _)
 | succ n ih =>
  intro k hk
  refine Ev.step (fun f => by rw [join_walk.l0]) ?_
  refine ev_bindc (there_eq xs k) ?_
  rw [decide_eq_true (by omega)]
  refine ev_pos rfl (ev_pos (by omega) (ev_pos (by omega) ?_))
  unfold UJoin.up
  refine ev_ite (fun h => ?_) (fun h => ?_)
  ·rw [if_pos h, w64 (by omega) (by omega)]
   exact ih (k + 1) (by omega)
  ·rw [if_neg h]
   exact ev_now _
theorem behind_ev (xs : List Int) (hm : xs.length ≤ 1000000) (i : Int) : Ev (fun k => join_Behind.f k xs i) (behindI xs i) := by
 unfold join_Behind.f join_walk.f behindI
 refine ev_bind (a := behindI xs i) ?_ (ev_now _)
 refine ev_bindc (there_eq xs i) ?_
 unfold behindI
 by_cases h : 0 ≤ i ∧ i < xs.length
 ·rw [decide_eq_true h, if_pos h]
  refine ev_pos rfl ?_
  rw [w64 (by omega) (by omega)]
  have := walk_up xs hm (xs.length - (i.toNat + 1)) (i.toNat + 1) (by omega)
  rw [show ((i.toNat + 1 : Nat) : Int) = i + 1 by omega] at this
  exact this
 ·rw [decide_eq_false h, if_neg h]
  exact ev_neg (by simp) (ev_now _)
theorem behindI_range (xs : List Int) (i : Int) : behindI xs i = -1 ∨ (i < behindI xs i ∧ behindI xs i < xs.length ∧ 0 ≤ i) := by
 unfold behindI
 by_cases h : 0 ≤ i ∧ i < xs.length
 ·rw [if_pos h]
  unfold next
  rcases up_range xs (xs.length - (i.toNat + 1)) (i.toNat + 1) with h1 | h1
  ·exact .inl h1
  ·right; omega
 ·rw [if_neg h]
  exact .inl rfl
theorem behind_eq (t : Int) : join_behind.f t = some (behindB t) := by
 unfold join_behind.f behindB
 by_cases h1 : t = 3
 ·simp [h1]
 ·by_cases h2 : t = 4
  ·simp [h2]
  ·by_cases h3 : t = 5 <;> simp [h1, h2, h3]
theorem ahead_eq (t : Int) : join_ahead.f t = some (aheadB t) := by
 unfold join_ahead.f aheadB
 by_cases h1 : t = 3
 ·simp [h1]
 ·by_cases h2 : t = 2
  ·simp [h2]
  ·by_cases h3 : t = 5 <;> simp [h1, h2, h3]
theorem joined_ev (xs : List Int) (hm : xs.length ≤ 1000000) (i : Int) : Ev (fun k => join_Joined.f k xs i) (joinedI xs i) := by
 unfold join_Joined.f
 refine ev_bind (behind_ev xs hm i) ?_
 unfold joinedI
 rcases behindI_range xs i with h | ⟨h1, h2, h3⟩
 ·rw [h]
  exact ev_neg (by omega) (ev_now _)
 ·refine ev_pos (by omega) (ev_pos (by omega) (ev_pos (by omega) (ev_bindc (behind_eq _) ?_)))
  rw [decide_eq_true (show 0 ≤ behindI xs i by omega)]
  cases behindB (rd xs i)
  ·exact ev_neg (by simp) (ev_now _)
  ·refine ev_pos rfl (ev_pos (by omega) (ev_pos (by omega) (ev_bindc (ahead_eq _) ?_)))
   exact ev_eq (ev_now _) (by simp)
theorem rup (xs : List Int) (hm : xs.length ≤ 1000000) (n : Nat) : ∀ k : Nat, k + n = xs.length → Ev (fun f => naskhref13_Behind.l0 f xs k) (up xs k n) := by
 induction n with
 | zero =>
  intro k hk
  refine Ev.step (fun f => by rw [naskhref13_Behind.l0]) ?_
  exact ev_neg (by omega) (ev_now _)
 | succ n ih =>
  intro k hk
  refine Ev.step (fun f => by rw [naskhref13_Behind.l0]) ?_
  refine ev_pos (by omega) (ev_pos (by omega) ?_)
  unfold UJoin.up
  refine ev_ite (fun h => ?_) (fun h => ?_)
  ·rw [if_pos h, w64 (by omega) (by omega)]
   exact ih (k + 1) (by omega)
  ·rw [if_neg h]
   exact ev_now _
theorem rdown (xs : List Int) (hm : xs.length ≤ 1000000) (k : Nat) : k ≤ xs.length → Ev (fun f => naskhref13_Ahead.l0 f xs ((k : Int) - 1)) (down xs k) := by
 induction k with
 | zero =>
  intro hk
  refine Ev.step (fun f => by rw [naskhref13_Ahead.l0]) ?_
  exact ev_neg (by omega) (ev_now _)
 | succ k ih =>
  intro hk
  rw [show ((k + 1 : Nat) : Int) - 1 = k by omega]
  refine Ev.step (fun f => by rw [naskhref13_Ahead.l0]) ?_
  refine ev_pos (by omega) (ev_pos (by omega) (ev_pos (by omega) ?_))
  unfold down
  refine ev_ite (fun h => ?_) (fun h => ?_)
  ·rw [if_pos h, w64 (by omega) (by omega)]
   exact ih (by omega)
  ·rw [if_neg h]
   exact ev_now _
theorem rahead_ev (xs : List Int) (hm : xs.length ≤ 1000000) (i : Int) : Ev (fun k => naskhref13_Ahead.f k xs i) (aheadI xs i) := by
 have jt : Ev (fun k => naskhref13_Ahead.j0 k xs i true) (-1) := Ev.step (fun k => by rw [naskhref13_Ahead.j0]) (ev_pos rfl (ev_now _))
 unfold naskhref13_Ahead.f aheadI
 by_cases h0 : i < 0
 ·rw [if_neg (by omega)]
  exact ev_pos h0 jt
 ·refine ev_neg h0 ?_
  by_cases h1 : i ≥ xs.length
  ·rw [if_neg (by omega), decide_eq_true h1]
   exact jt
  ·rw [if_pos (by omega), decide_eq_false h1]
   refine Ev.step (fun k => by rw [naskhref13_Ahead.j0]) (ev_neg (by simp) ?_)
   rw [w64 (by omega) (by omega)]
   have := rdown xs hm i.toNat (by omega)
   rw [show ((i.toNat : Nat) : Int) - 1 = i - 1 by omega] at this
   exact this
theorem rbehind_ev (xs : List Int) (hm : xs.length ≤ 1000000) (i : Int) : Ev (fun k => naskhref13_Behind.f k xs i) (behindI xs i) := by
 have jt : Ev (fun k => naskhref13_Behind.j0 k xs i true) (-1) := Ev.step (fun k => by rw [naskhref13_Behind.j0]) (ev_pos rfl (ev_now _))
 unfold naskhref13_Behind.f behindI
 by_cases h0 : i < 0
 ·rw [if_neg (by omega)]
  exact ev_pos h0 jt
 ·refine ev_neg h0 ?_
  by_cases h1 : i ≥ xs.length
  ·rw [if_neg (by omega), decide_eq_true h1]
   exact jt
  ·rw [if_pos (by omega), decide_eq_false h1]
   refine Ev.step (fun k => by rw [naskhref13_Behind.j0]) (ev_neg (by simp) ?_)
   rw [w64 (by omega) (by omega)]
   have := rup xs hm (xs.length - (i.toNat + 1)) (i.toNat + 1) (by omega)
   rw [show ((i.toNat + 1 : Nat) : Int) = i + 1 by omega] at this
   exact this
theorem rjoined_ev (xs : List Int) (hm : xs.length ≤ 1000000) (i : Int) : Ev (fun k => naskhref13_Joined.f k xs i) (joinedI xs i) := by
 unfold naskhref13_Joined.f
 refine ev_bind (rbehind_ev xs hm i) ?_
 unfold joinedI
 rcases behindI_range xs i with h | ⟨h1, h2, h3⟩
 ·rw [h]
  exact ev_pos (by omega) (ev_now _)
 ·refine ev_neg (by omega) (ev_pos (by omega) (ev_pos (by omega) (ev_pos (by omega) (ev_pos (by omega) ?_))))
  rw [decide_eq_true (show 0 ≤ behindI xs i by omega)]
  generalize rd xs i = a
  generalize rd xs (behindI xs i) = b
  refine ev_const ?_
  unfold behindB aheadB
  by_cases a1 : a = 3 <;> by_cases a2 : a = 4 <;> by_cases a3 : a = 5 <;> by_cases b1 : b = 3 <;> by_cases b2 : b = 2 <;> simp [a1, a2, a3, b1, b2] <;> omega
end Go.Proofs.YtemhccjjcioodaaGreat.PureJoin
namespace Go.Proofs.YtemhccjjcioodaaGreat.CJoin3
open Go.RowKit Go.Proofs.YtemhccjjcioodaaGreat.PJoinForms Go.Proofs.YtemhccjjcioodaaGreatW.PrintWords Go.Proofs.YtemhccjjcioodaaGreatW.PrintMore Go.Proofs.YtemhccjjcioodaaGreat.U Go.Proofs.YtemhccjjcioodaaGreat.CBase Go.Proofs.YtemhccjjcioodaaGreat.UJoin Go.Proofs.YtemhccjjcioodaaGreat.PureJoin
section
variable {v : Value} {xs : List Int} {w : World} (h : SL w v xs) (hm : xs.length ≤ 1000000) (i : Int)
include h hm
theorem behind_c : Calls Tryz.prog 180 #[v, .int .i64 i] w fun e w' => e = .returned (.int .i64 (behindI xs i)) ∧ Below w.heap.size w w' := by
 obtain ⟨A, c, rfl, hc, h⟩ := h
 obtain ⟨k, hk⟩ := (behind_ev xs hm i).rounds
 exact (join_Behind.calls k A c xs i _ w h hc hk).mono fun e w' h => ⟨h.1, h.2.below⟩
theorem joined_c : Calls Tryz.prog 179 #[v, .int .i64 i] w fun e w' => e = .returned (.bool (joinedI xs i)) ∧ Below w.heap.size w w' := by
 obtain ⟨A, c, rfl, hc, h⟩ := h
 obtain ⟨k, hk⟩ := (joined_ev xs hm i).rounds
 exact (join_Joined.calls k A c xs i _ w h hc hk).mono fun e w' h => ⟨h.1, h.2.below⟩
theorem rbehind_c : Calls Tryz.prog 26 #[v, .int .i64 i] w fun e w' => e = .returned (.int .i64 (behindI xs i)) ∧ Below w.heap.size w w' := by
 obtain ⟨A, c, rfl, hc, h⟩ := h
 obtain ⟨k, hk⟩ := (rbehind_ev xs hm i).rounds
 exact (naskhref13_Behind.calls k A c xs i _ w h hc hk).mono fun e w' h => ⟨h.1, h.2.below⟩
theorem rjoined_c : Calls Tryz.prog 24 #[v, .int .i64 i] w fun e w' => e = .returned (.bool (joinedI xs i)) ∧ Below w.heap.size w w' := by
 obtain ⟨A, c, rfl, hc, h⟩ := h
 obtain ⟨k, hk⟩ := (rjoined_ev xs hm i).rounds
 exact (naskhref13_Joined.calls k A c xs i _ w h hc hk).mono fun e w' h => ⟨h.1, h.2.below⟩
omit i in
end
end Go.Proofs.YtemhccjjcioodaaGreat.CJoin3
end
section
namespace Go.Proofs.YtemhccjjcioodaaGreat.PGet
open Go.RowKit Go.Proofs.YtemhccjjcioodaaGreatW.PrintWords Go.Proofs.YtemhccjjcioodaaGreatW.PrintLast Go.Proofs.YtemhccjjcioodaaGreatW.PrintMore
attribute [local go_sem] max2_int min2_int max_two min_two max_three min_three max_four min_four   -- for this text's walks alone
-- the values' own types
structure S127 where
 f0 : Int
 f1 : Int
 f2 : Int
def z127 : S127 := ⟨(0 : Int), (0 : Int), (0 : Int)⟩
def k127 : Kd S127 := Kd.iso (Kd.pair (Kd.int .i64) (Kd.pair (Kd.int .i64) (Kd.int .i64))) (fun x : S127 => (x.f0, x.f1, x.f2))
theorem k127_open {w : World} {x : S127} {cs : List Value} (h : k127.K w x cs) : cs = [.int .i64 x.f0, .int .i64 x.f1, .int .i64 x.f2] := by
 obtain ⟨_, _, rfl, rfl, ⟨_, _, rfl, rfl, rfl⟩⟩ := h
 exact rfl
theorem k127_mk (w : World) (x : S127)  : k127.K w x [.int .i64 x.f0, .int .i64 x.f1, .int .i64 x.f2] := ⟨[.int .i64 x.f0], [.int .i64 x.f1, .int .i64 x.f2], rfl, rfl, ⟨[.int .i64 x.f1], [.int .i64 x.f2], rfl, rfl, rfl⟩⟩
def rd_T127 (xs : List S127) (i : Int) : S127 := xs.getD i.toNat z127
theorem at_T127 {w : World} {A : Option Addr} {n : Nat} {xs : List S127} (h : Kd.C k127 w A n xs) (i : Int) (h0 : 0 ≤ i) (h1 : i < n) : ∃ ad , A = some ad ∧ w.cell? (ad.add (i.toNat * 3)) = some (.int .i64 (rd_T127 xs i).f0) ∧ w.cell? ⟨(ad.add (i.toNat * 3)).block, (ad.add (i.toNat * 3)).off + 1, none⟩ = some (.int .i64 (rd_T127 xs i).f1) ∧ w.cell? ⟨(ad.add (i.toNat * 3)).block, (ad.add (i.toNat * 3)).off + 2, none⟩ = some (.int .i64 (rd_T127 xs i).f2) := by
 obtain ⟨ad, c, e, _, hK, hc0⟩ := Kd.C_get h z127 i h0 h1
 have hc : ∀ j u, c[j]? = some u → w.cell? (ad.add (i.toNat * 3 + j)) = some u := hc0
 obtain rfl := k127_open hK
 exact ⟨ad, e, hc 0 _ rfl, by rw [← add_field _ _ 1 (by omega)]; exact hc 1 _ rfl, by rw [← add_field _ _ 2 (by omega)]; exact hc 2 _ rfl⟩
end Go.Proofs.YtemhccjjcioodaaGreat.PGet
end
section
namespace Go.Proofs.YtemhccjjcioodaaGreat.PGet
open Go.RowKit Go.Proofs.YtemhccjjcioodaaGreatW.PrintWords Go.Proofs.YtemhccjjcioodaaGreatW.PrintLast Go.Proofs.YtemhccjjcioodaaGreatW.PrintMore
attribute [local go_sem] max2_int min2_int max_two min_two max_three min_three max_four min_four   -- for this text's walks alone
def naskhref06_Get.l0 : Nat → List (S127) → Int → Int → Int → Option (Int)
 | 0, _, _, _, _ => none
 | k + 1, x0, x1, x2, x7 => if x7 < (x0.length : Int) then (if 0 ≤ x7 then (if x2 ≥ ((rd_T127 x0 x7).f0) then (if x2 ≤ ((rd_T127 x0 x7).f1) then (some ((rd_T127 x0 x7).f2)) else (naskhref06_Get.l0 k x0 x1 x2 (wrap64 (x7 + 1)))) else (naskhref06_Get.l0 k x0 x1 x2 (wrap64 (x7 + 1)))) else (none)) else (some x1)
def naskhref06_Get.f (k : Nat) (l0 : List (S127)) (a1 : Int) (a2 : Int) : Option (Int) := naskhref06_Get.l0 k l0 a1 a2 0
set_option maxHeartbeats 8000000 in
set_option maxRecDepth 100000 in
theorem naskhref06_Get.calls (k : Nat) (A0 : Option Addr) (c0 : Nat) (l0 : List (S127)) (a1 : Int) (a2 : Int) (r : Int) (w : World) (hr0 : Kd.C k127 w A0 l0.length l0) (hc0 : l0.length ≤ c0) (h : naskhref06_Get.f k l0 a1 a2 = some r) :
 Calls Tryz.prog 124 #[.slice A0 l0.length c0, .int .i64 a1, .int .i64 a2] w fun e w' => e = .returned (.int .i64 r) ∧ Drawn0 w w' := by
 have HR0 := Aside0.mk hr0
 have HC0 := Aside0.mk hc0
 clear hr0 hc0
 have H : (naskhref06_Get.l0 k l0 a1 a2 0) = some r := h
 clear h
 have H' := Aside0.mk H
 clear H
 go_enter Tryz.func124, Tryz.ntmps124
 go_wp2
 go_loopg [7] k (fun kq v7 w' => ∃ (x7_1 : Int), v7 = .int .i64 x7_1 ∧ Aside0 (naskhref06_Get.l0 kq l0 a1 a2 x7_1 = some r) ∧ Aside0 (kq ≤ k) ∧ Drawn0 w w')
 case atStart => exact ⟨(0), (by first | rfl | (simp; done) | (simp [*]; done)), H', ⟨Nat.le_refl _⟩, by repeat (first | exact Drawn0.refl _ | apply Drawn0.step)⟩
 case round =>
  clear H'
  try clear c1
  try clear p2
  obtain ⟨x7_1, rfl, HA, HK1, ⟨m1, rfl⟩⟩ := hrel
  cases gk with
  | zero => exact absurd HA.out (by simp [naskhref06_Get.l0])
  | succ k1 =>
   have H := HA.out
   clear HA
   simp only [naskhref06_Get.l0] at H
   by_cases c4 : x7_1 < (l0.length : Int)
   ·rw [if_pos c4] at H
    have c4b0 : decide (x7_1 < (l0.length : Int)) = true := decide_eq_true c4
    clear c4
    by_cases c5 : 0 ≤ x7_1
    ·rw [if_pos c5] at H
     have c5b0 : decide (0 ≤ x7_1) = true := decide_eq_true c5
     clear c5
     by_cases c6 : a2 ≥ ((rd_T127 l0 x7_1).f0)
     ·rw [if_pos c6] at H
      have c6b0 : decide (((rd_T127 l0 x7_1).f0) ≤ a2) = true := decide_eq_true c6
      clear c6
      by_cases c7 : a2 ≤ ((rd_T127 l0 x7_1).f1)
      ·rw [if_pos c7] at H
       have c7b0 : decide (a2 ≤ ((rd_T127 l0 x7_1).f1)) = true := decide_eq_true c7
       clear c7
       obtain rfl := Option.some.inj H
       have p101 : 0 ≤ (x7_1 : Int) := of_decide_eq_true (by first | (with_reducible assumption) | assumption)
       have q101 : x7_1 < (l0.length : Int) := of_decide_eq_true (by first | (with_reducible assumption) | assumption)
       obtain ⟨ad101, e101, hx101_0, hx101_1, hx101_2⟩ := at_T127 HR0.out x7_1 p101 q101
       cases e101
       replace p101 := eq_true p101
       replace q101 := eq_true q101
       have p102 : 0 ≤ (x7_1 : Int) := of_decide_eq_true (by first | (with_reducible assumption) | assumption)
       have q102 : x7_1 < (l0.length : Int) := of_decide_eq_true (by first | (with_reducible assumption) | assumption)
       obtain ⟨ad102, e102, hx102_0, hx102_1, hx102_2⟩ := at_T127 HR0.out x7_1 p102 q102
       obtain rfl : ad101 = ad102 := (by injection e102)
       replace p102 := eq_true p102
       replace q102 := eq_true q102
       have p103 : 0 ≤ (x7_1 : Int) := of_decide_eq_true (by first | (with_reducible assumption) | assumption)
       have q103 : x7_1 < (l0.length : Int) := of_decide_eq_true (by first | (with_reducible assumption) | assumption)
       obtain ⟨ad103, e103, hx103_0, hx103_1, hx103_2⟩ := at_T127 HR0.out x7_1 p103 q103
       obtain rfl : ad101 = ad103 := (by injection e103)
       replace p103 := eq_true p103
       replace q103 := eq_true q103
       go_wp2
       go_ret
       exact ⟨by first | rfl | (simp; done) | (simp [*]; done), by repeat (first | exact Drawn0.refl _ | apply Drawn0.step)⟩
      ·rw [if_neg c7] at H
       have c7b0 : decide (a2 ≤ ((rd_T127 l0 x7_1).f1)) = false := decide_eq_false c7
       clear c7
       have H' := Aside0.mk H
       clear H
       have p101 : 0 ≤ (x7_1 : Int) := of_decide_eq_true (by first | (with_reducible assumption) | assumption)
       have q101 : x7_1 < (l0.length : Int) := of_decide_eq_true (by first | (with_reducible assumption) | assumption)
       obtain ⟨ad101, e101, hx101_0, hx101_1, hx101_2⟩ := at_T127 HR0.out x7_1 p101 q101
       cases e101
       replace p101 := eq_true p101
       replace q101 := eq_true q101
       have p102 : 0 ≤ (x7_1 : Int) := of_decide_eq_true (by first | (with_reducible assumption) | assumption)
       have q102 : x7_1 < (l0.length : Int) := of_decide_eq_true (by first | (with_reducible assumption) | assumption)
       obtain ⟨ad102, e102, hx102_0, hx102_1, hx102_2⟩ := at_T127 HR0.out x7_1 p102 q102
       obtain rfl : ad101 = ad102 := (by injection e102)
       replace p102 := eq_true p102
       replace q102 := eq_true q102
       go_wp2
       go_roundg k1
       case measure => have := HK1.out; omega
       case rel => exact ⟨(wrap64 (x7_1 + 1)), (by first | rfl | (simp; done) | (simp [*]; done)), H', ⟨by have := HK1.out; omega⟩, by repeat (first | exact Drawn0.refl _ | apply Drawn0.step)⟩
     ·rw [if_neg c6] at H
      have c6b0 : decide (((rd_T127 l0 x7_1).f0) ≤ a2) = false := decide_eq_false c6
      clear c6
      have H' := Aside0.mk H
      clear H
      have p101 : 0 ≤ (x7_1 : Int) := of_decide_eq_true (by first | (with_reducible assumption) | assumption)
      have q101 : x7_1 < (l0.length : Int) := of_decide_eq_true (by first | (with_reducible assumption) | assumption)
      obtain ⟨ad101, e101, hx101_0, hx101_1, hx101_2⟩ := at_T127 HR0.out x7_1 p101 q101
      cases e101
      replace p101 := eq_true p101
      replace q101 := eq_true q101
      go_wp2
      go_roundg k1
      case measure => have := HK1.out; omega
      case rel => exact ⟨(wrap64 (x7_1 + 1)), (by first | rfl | (simp; done) | (simp [*]; done)), H', ⟨by have := HK1.out; omega⟩, by repeat (first | exact Drawn0.refl _ | apply Drawn0.step)⟩
    ·rw [if_neg c5] at H
     exact absurd H (by simp)
   ·rw [if_neg c4] at H
    have c4b0 : decide (x7_1 < (l0.length : Int)) = false := decide_eq_false c4
    clear c4
    obtain rfl := Option.some.inj H
    go_wp2
    go_ret
    exact ⟨by first | rfl | (simp; done) | (simp [*]; done), by repeat (first | exact Drawn0.refl _ | apply Drawn0.step)⟩
end Go.Proofs.YtemhccjjcioodaaGreat.PGet
end
section
namespace Go.Proofs.YtemhccjjcioodaaGreat.CJoins
open Go.RowKit Go.Proofs.YtemhccjjcioodaaGreat.PGet Go.Proofs.YtemhccjjcioodaaGreatW.PrintWords Go.Proofs.YtemhccjjcioodaaGreatW.PrintMore Go.Proofs.YtemhccjjcioodaaGreat.U Go.Proofs.YtemhccjjcioodaaGreat.CBase
def getR : List S127 → Int → Int → Int
 | [], d, _ => d
 | r :: t, d, c => if r.f0 ≤ c ∧ c ≤ r.f1 then r.f2 else getR t d c
theorem get_loop (rs : List S127) (d c : Int) (hm : rs.length ≤ 1000000) (n : Nat) : ∀ i : Nat, i + n = rs.length → Ev (fun k => naskhref06_Get.l0 k rs d c i) (getR (rs.drop i) d c) := by
 induction n with
 | zero =>
  intro i hi
  refine Ev.step (fun k => by rw [naskhref06_Get.l0]) (ev_neg (by omega) (ev_eq (ev_now _) ?_))
  rw [List.drop_of_length_le (by omega)]
  rfl
 | succ n ih =>
  intro i hi
  have hrd : rd_T127 rs i = rs[i] := by
   unfold rd_T127
   rw [Int.toNat_natCast, List.getD_eq_getElem?_getD, List.getElem?_eq_getElem (by omega)]
   rfl
  refine Ev.step (fun k => by rw [naskhref06_Get.l0]) (ev_pos (by omega) (ev_pos (by omega) ?_))
  rw [hrd, List.drop_eq_getElem_cons (l := rs) (show i < rs.length by omega), getR, w64 (by omega) (by omega)]
  have go := ih (i + 1) (by omega)
  refine ev_ite (fun h1 => ev_ite (fun h2 => ?_) (fun h2 => ?_)) (fun h1 => ?_)
  ·rw [if_pos ⟨h1, h2⟩]; exact ev_now _
  ·rw [if_neg (fun h => h2 h.2)]; exact go
  ·rw [if_neg (fun h => h1 h.1)]; exact go
theorem get_ev (rs : List S127) (d c : Int) (hm : rs.length ≤ 1000000) : Ev (fun k => naskhref06_Get.f k rs d c) (getR rs d c) := get_loop rs d c hm rs.length 0 (by omega)
def flat3 (rs : List S127) : List Value := rs.flatMap fun x => [.int .i64 x.f0, .int .i64 x.f1, .int .i64 x.f2]
def chunk3 : List Value → List S127
 | .int _ a :: .int _ b :: .int _ c :: r => ⟨a, b, c⟩ :: chunk3 r
 | _ => []
theorem flat3_get (rs : List S127) : ∀ (j : Nat) (x : S127), rs[j]? = some x → ∀ (i : Nat) (u : Value), ([.int .i64 x.f0, .int .i64 x.f1, .int .i64 x.f2] : List Value)[i]? = some u → (flat3 rs)[j * 3 + i]? = some u := by
 induction rs with
 | nil => intro j x h; simp at h
 | cons r t ih =>
  intro j x h i u hu
  have hi : i < 3 := by
   have := (List.getElem?_eq_some_iff.1 hu).1
   simpa using this
  cases j with
  | zero =>
   obtain rfl := Option.some.inj h
   unfold flat3
   rw [List.flatMap_cons, List.getElem?_append_left (by simp; omega)]
   simpa using hu
  | succ j =>
   have := ih j x h i u hu
   unfold flat3 at this ⊢
   rw [List.flatMap_cons, List.getElem?_append_right (by simp; omega)]
   simp only [List.length_cons, List.length_nil]
   rw [show (j + 1) * 3 + i - (0 + 1 + 1 + 1) = j * 3 + i by omega]
   exact this
theorem C_flat3 (w : World) (rs : List S127) (t : TypeId) (hm : rs.length ≤ 1000000) : Kd.C k127 (w.alloc (.cells (flat3 rs).toArray t)) (some ⟨w.heap.size, 0, none⟩) rs.length rs := by
 refine ⟨rfl, by omega, fun _ => ⟨_, rfl, fun j p hj => ⟨_, rfl, k127_mk _ p, fun i u hu => ?_⟩⟩⟩
 rw [add_plain, World.cell?_alloc_new]
 have := flat3_get rs j p hj i u hu
 show (flat3 rs).toArray[j * 3 + i]? = some u
 simpa using this
noncomputable def cellsJ : Array Value := match runF Tryz.prog 10 1 54 #[] (default : World) with
 | some (_, w') => match (w' : World).heap[0]? with | some (Obj.cells c _ _) => c | _ => #[]
 | none => #[]
noncomputable def rsJ : List S127 := chunk3 cellsJ.toList
theorem run96 (w : World) : runF Tryz.prog 10 1 54 #[] w = some (.slice (some ⟨w.heap.size, 0, none⟩) 68 68, w.alloc (.cells cellsJ 151)) := by kernel_rfl
theorem rsJ_length : rsJ.length = 68 := by kernel_rfl
theorem cellsJ_flat : cellsJ = (flat3 rsJ).toArray := by kernel_rfl
theorem ranges_c (w : World) : Calls Tryz.prog 54 #[] w fun e w' => e = .returned (.slice (some ⟨w.heap.size, 0, none⟩) rsJ.length 68) ∧ Kd.C k127 w' (some ⟨w.heap.size, 0, none⟩) rsJ.length rsJ ∧ Below w.heap.size w w' := by
 refine (runF_ok 10 1 54 #[] w _ _ (run96 w)).mono ?_
 rintro e W ⟨rfl, rfl⟩
 rw [rsJ_length]
 refine ⟨rfl, ?_, below_alloc (Below.refl _ _) _⟩
 have := C_flat3 w rsJ 151 (by rw [rsJ_length]; decide)
 rw [← cellsJ_flat, rsJ_length] at this
 exact this
noncomputable def jn (c : Int) : Int := getR rsJ 0 c
theorem join_c (c : Int) (w : World) : Calls Tryz.prog 69 #[.int .i64 c] w fun e w' => e = .returned (.int .i64 (jn c)) ∧ Below w.heap.size w w' := by
 obtain ⟨k, hk⟩ := (get_ev rsJ 0 c (by rw [rsJ_length]; decide)).rounds
 have HK := Aside0.mk hk; clear hk
 go_enter Tryz.func69, Tryz.ntmps69
 go_wp2_with fail
 refine (ranges_c _).mono ?_
 rintro e w1 ⟨rfl, hC, hb⟩
 have HC := Aside0.mk hC
 have HB := Aside0.mk hb
 clear hC hb
 go_wp2_with fail
 refine (naskhref06_Get.calls k _ _ rsJ 0 c _ _ HC.out (by rw [rsJ_length]; decide) HK.out).mono ?_
 rintro e w2 ⟨rfl, hb⟩
 have HB2 := Aside0.mk (below_step HB.out hb.below)
 clear hb
 go_wp2
 go_ret
 exact ⟨rfl, HB2.out⟩
theorem info3 : (Tryz.prog.info? 3).map (fun i => (i.zero, i.size, i.bytes)) = some (some (.int .i64 0), 1, 8) := by kernel_rfl
set_option maxRecDepth 100000 in
set_option maxHeartbeats 1000000 in
theorem joinsR_c {v : Value} {xs : List Int} {w : World} (h : SL w v xs) (hm : xs.length ≤ 1000000) : Calls Tryz.prog 23 #[v] w fun e w' => ∃ u, e = .returned u ∧ Kd.R (Kd.int .i64) 3 w' w.heap.size (fun _ => True) u (xs.map jn) ∧ Below w.heap.size w w' := by
 have H := Aside0.mk h
 obtain ⟨A, c, rfl, _, hC⟩ := h
 have HC := Aside0.mk hC; clear hC
 go_enter Tryz.func23, Tryz.ntmps23
 go_wp2_with fail
 go_loopw [4, 3] (fun v r wr => ∃ k : Nat, v = .int .i64 k ∧ k ≤ xs.length ∧ Aside0 (Kd.R (Kd.int .i64) 3 wr w.heap.size (fun _ => True) r ((xs.take k).map jn)) ∧ Aside0 (Below w.heap.size w wr)) (fun v _ _ => xs.length - (intOf v).toNat)
 case atStart => exact ⟨0, rfl, Nat.zero_le _, ⟨Kd.R_nil _ _ _ _ _⟩, ⟨Below.refl _ _⟩⟩
 case round =>
  obtain ⟨k, rfl, hk, HR, HB⟩ := hrel
  by_cases hlt : k < xs.length
  ·have hltI : (k : Int) < (xs.length : Int) := by omega
   have hkI : 0 ≤ (k : Int) := by omega
   obtain ⟨ad, ea, hx⟩ := Kd.at_int (Kd.C_below HC.out HB.out) (k : Int) hkI hltI
   cases ea
   simp only [Int.toNat_natCast] at hx
   have HS : Aside0 ((xs.take (k + 1)).map jn = (xs.take k).map jn ++ [jn (rd xs k)]) := ⟨by
    rw [List.take_succ_eq_append_getElem hlt, List.map_append, rd_get hlt]; rfl⟩
   have hl : ((xs.take k).map jn).length ≤ 1000000 := by rw [List.length_map, List.length_take]; omega
   generalize (xs.take k).map jn = out at HR HS hl
   go_wp2_with fail
   refine (join_c _ _).mono ?_
   generalize jn (rd xs k) = y at HS
   rintro e w2 ⟨rfl, hb⟩
   have HB2 := Aside0.mk (below_step HB.out hb)
   have HR2 := Aside0.mk (Kd.R_below HR.out hb)
   clear hb HB HR hx
   go_wp2_with (first | (at_builtin; refine Kd.R_append (Kd.int .i64) (w0 := w) w.heap.size rfl (.tmp 11) (.tmp 17) 22 3 (.int .i64 0) 8 rfl Tryz.underlying22 info3 rfl (by decide) (by omega) _ _ y [.int .i64 y] (fun _ => True) (fun _ => False) rfl rfl rfl (fun _ h => h.elim) (fun _ _ => trivial) HR2.out HB2.out HB2.out.size (by omega) ?_; intro v1 w1 hv1 hb1 hg1 hn1; have HV1 := Aside0.mk hv1; have HB1 := Aside0.mk hb1; clear hv1 hb1 hg1 hn1))
   exact ⟨⟨k + 1, by go_num, by omega, ⟨by rw [HS.out]; exact HV1.out⟩, HB1⟩, by simp [intOf]; omega⟩
  ·go_wp2
   go_ret
   refine ⟨_, rfl, ?_, HB.out⟩
   have := HR.out
   rwa [List.take_of_length_le (by omega)] at this
theorem joins_c {v : Value} {xs : List Int} {w : World} (h : SL w v xs) (hm : xs.length ≤ 1000000) : Calls Tryz.prog 23 #[v] w fun e w' => ∃ u, e = .returned u ∧ SL w' u (xs.map jn) ∧ Below w.heap.size w w' :=
 (joinsR_c h hm).mono fun e w' ⟨u, he, hr, hb⟩ => ⟨u, he, SLk.of_R hr, hb⟩
end Go.Proofs.YtemhccjjcioodaaGreat.CJoins
end
section
namespace Go.Proofs.YtemhccjjcioodaaGreat.KProps
open Go.RowKit Go.Proofs.YtemhccjjcioodaaGreatW.PrintWords Go.Proofs.YtemhccjjcioodaaGreatW.PrintMore Go.Proofs.YtemhccjjcioodaaGreatW.PrintLast Go.Proofs.YtemhccjjcioodaaGreat.U Go.Proofs.YtemhccjjcioodaaGreat.CProps
abbrev RA := Go.Proofs.YtemhccjjcioodaaGreat.PEmbedJoins.S127
abbrev RB := Go.Proofs.YtemhccjjcioodaaGreat.PGet.S127
def conv (x : RA) : RB := ⟨x.f0, x.f1, x.f2⟩
theorem getR_conv (n c : Int) : ∀ l : List RA, UTrie.getR l n c = CJoins.getR (l.map conv) n c
 | [] => rfl
 | r :: l => by
  have ih := getR_conv n c l
  unfold UTrie.getR at ih ⊢
  rw [List.map_cons]
  show _ = (if _ then _ else _)
  by_cases h : r.f0 ≤ c ∧ c ≤ r.f1
  ·rw [List.find?_cons_of_pos (by simpa [UTrie.inR] using h)]
   simp [conv, h]
  ·rw [List.find?_cons_of_neg (by simpa [UTrie.inR] using h), ih]
   simp [conv, h]
theorem rsJ_same : CProps.rsJ.map conv = CJoins.rsJ := by kernel_rfl
theorem jn_same (c : Int) : UTrie.getR CProps.rsJ 0 c = CJoins.jn c := by
 unfold CJoins.jn
 rw [getR_conv, rsJ_same]
set_option maxRecDepth 100000 in
set_option maxHeartbeats 4000000 in
theorem pjoin_c {w : World} {g : Nat} (h : PropsAt w g) (c : Int) : Calls Tryz.prog 110 #[.pointer (some ⟨g, 0, none⟩), .int .i64 c] w fun e w' => e = .returned (.int .i64 (CJoins.jn c)) ∧ Below w.heap.size w w' := by
 have H := Aside0.mk h
 obtain ⟨g1, g2, hT, h1, h2⟩ := h
 have t1 : w.cell? ⟨g, 1, none⟩ = some (.pointer (some ⟨g2, 0, none⟩)) := (blk_cell hT 1).trans rfl
 have H2 := Aside0.mk h2
 clear hT h1 h2
 go_enter Tryz.func110, Tryz.ntmps110
 go_wp2_with (first | (go_at_call 176; refine (made_c H.out).mono ?_; rintro e w1 ⟨rfl, hb1⟩; have HB1 := Aside0.mk hb1; have t1 := (hb1.cell (World.block_lt_of_cell? _ _ t1)).trans t1; clear hb1) | (go_at_call 177; refine (get_c (table_below H2.out HB1.out) okJ c).mono ?_; rintro e w3 ⟨rfl, hb3⟩; have HB3 : Aside0 (Below w.heap.size w w3) := ⟨below_step HB1.out hb3⟩; clear hb3))
 go_ret
 exact ⟨by rw [jn_same]; rfl, HB3.out⟩
theorem info3k : (Tryz.prog.info? 3).map (fun i => (i.zero, i.size, i.bytes)) = some (some (.int .i64 0), 1, 8) := by kernel_rfl
noncomputable def zs (xs : List Int) (i : Nat) : List Int := (xs.take i).map CJoins.jn ++ List.replicate (xs.length - i) 0
theorem zs_len (xs : List Int) {i : Nat} (h : i ≤ xs.length) : (zs xs i).length = xs.length := by simp [zs]; omega
theorem zs_zero (xs : List Int) : zs xs 0 = List.replicate xs.length 0 := by unfold zs; rw [List.take_zero, List.map_nil, List.nil_append, Nat.sub_zero]
theorem zs_set (xs : List Int) {i : Nat} (h : i < xs.length) : (zs xs i).set i (CJoins.jn xs[i]) = zs xs (i + 1) := by
 have hl : ((xs.take i).map CJoins.jn).length = i := by simp; omega
 unfold zs
 obtain ⟨k, hk⟩ : ∃ k, xs.length - i = k + 1 := ⟨xs.length - i - 1, by omega⟩
 rw [List.set_append_right _ _ (by omega), hl, Nat.sub_self, hk, List.replicate_succ, List.set_cons_zero, List.take_succ_eq_append_getElem h, List.map_append, List.append_assoc, show xs.length - (i + 1) = k by omega]
 rfl
set_option maxRecDepth 100000 in
set_option maxHeartbeats 4000000 in
theorem each_c {w : World} {g : Nat} (h : PropsAt w g) {v : Value} {xs : List Int} (hx : SL w v xs) (hm : xs.length ≤ 1000000) : Calls Tryz.prog 109 #[v, .func (.func 110) #[.pointer (some ⟨g, 0, none⟩)] #[]] w fun e w' => ∃ u, e = .returned u ∧ Kd.R (Kd.int .i64) 3 w' w.heap.size (fun _ => True) u (xs.map CJoins.jn) ∧ Below w.heap.size w w' := by
 have H := Aside0.mk h
 have HM := Aside0.mk hm
 obtain ⟨A, c, rfl, hc, hC⟩ := hx
 have HC := Aside0.mk hC
 clear h hm hc hC
 go_enter Tryz.func109, Tryz.ntmps109
 go_upto_region 3 with (first | ((with_reducible refine gate_dst (N := 10) rfl ?_); refine Kd.R_make (Kd.int .i64) (w0 := w) w.heap.size 3 rfl rfl 22 (.tmp 9) (.tmp 9) rfl (xs.length : Int) (by first | (go_simp; done) | (go_simp; rfl)) (by first | (go_simp; done) | (go_simp; rfl)) Tryz.underlying22 (.int .i64 0) 8 info3k rfl (by decide) (by omega) (0 : Int) (ok := fun _ => True) (okp := fun _ => False) rfl (fun _ h => h.elim) trivial (by omega) (by have := HM.out; simp only [Int.toNat_natCast]; omega) (Below.refl _ _) (Nat.le_refl _) ?_; intro v1 w1 hv hb hg hat; rw [Int.toNat_natCast] at hv; obtain ⟨A1, c1, e1⟩ := Kd.R_slice hv; rw [List.length_replicate] at e1; subst e1; have HV : Aside0 (Kd.R (Kd.int .i64) 3 w1 w.heap.size (fun _ => True) (.slice A1 xs.length c1) (zs xs 0)) := ⟨by rw [zs_zero]; exact hv⟩; have HB := Aside0.mk hb; clear hv hb hg hat))
 go_loopw [13] (fun v wr => ∃ i : Nat, v = .int .i64 i ∧ i ≤ xs.length ∧ Aside0 (Kd.R (Kd.int .i64) 3 wr w.heap.size (fun _ => True) (.slice A1 xs.length c1) (zs xs i)) ∧ Aside0 (Below w.heap.size w wr)) (fun v _ => xs.length - (intOf v).toNat)
 case atStart => exact ⟨0, rfl, Nat.zero_le _, HV, HB⟩
 case round =>
  clear HV HB
  obtain ⟨i, rfl, hi, HV, HB⟩ := hrel
  by_cases hli : i < xs.length
  ·have hiI : (i : Int) < (xs.length : Int) := by omega
   have hi0 : 0 ≤ (i : Int) := by omega
   have hi9 : (i : Int) ≤ 1000000 := by have := HM.out; omega
   obtain ⟨g1, cap, eg, -, -, -⟩ := Kd.R_form HV.out (by rw [zs_len xs hi]; omega)
   rw [zs_len xs hi] at eg
   injection eg with e1 e2 e3
   subst e1
   subst e3
   obtain ⟨ad, ead, c0⟩ := Kd.at_int (Kd.C_below HC.out HB.out) (i : Int) (by omega) (by omega)
   subst ead
   rw [Int.toNat_natCast, rd_get hli] at c0
   have HS := Aside0.mk (zs_set xs hli)
   generalize xs[i] = x at c0 HS
   have HI := Aside0.mk hli
   have HL := Aside0.mk (zs_len xs hi)
   clear hli hi
   go_wp2_with (first | (refine (pjoin_c (H.out.below HB.out) x).mono ?_; rintro e w2 ⟨rfl, hb⟩; have hv2 := Kd.R_below HV.out hb; obtain ⟨z0, z1⟩ := Kd.R_celln (0 : Int) hv2 (i : Int) (by omega) (by omega); have hp := (Kd.R_putg hv2 (i : Int) (CJoins.jn x)).1; rw [Int.toNat_natCast] at z0 z1 hp; rw [HS.out] at hp; have HP := Aside0.mk hp; have HG2 : Aside0 (w.heap.size ≤ g1) := ⟨Kd.R_base hv2 g1 (by simp [Value.ownBlock])⟩; have HB2 : Aside0 (Below w.heap.size w w2) := ⟨below_step HB.out hb⟩; clear hb hv2 hp))
   exact ⟨⟨i + 1, by go_num, by have := HI.out; omega, HP, ⟨HB2.out.setCell (p := ⟨g1, i, none⟩) HG2.out _⟩⟩, by have := HI.out; simp [intOf]; omega⟩
  ·obtain rfl : i = xs.length := by omega
   clear hli hi
   go_wp2
   go_ret
   refine ⟨_, rfl, ?_, HB.out⟩
   have h := HV.out
   unfold zs at h
   rw [List.take_length, Nat.sub_self, List.replicate_zero, List.append_nil] at h
   exact h
set_option maxRecDepth 100000 in
set_option maxHeartbeats 4000000 in
theorem pjoins_c {w : World} {g : Nat} (h : PropsAt w g) {v : Value} {xs : List Int} (hx : SL w v xs) (hm : xs.length ≤ 1000000) : Calls Tryz.prog 51 #[.pointer (some ⟨g, 0, none⟩), v] w fun e w' => ∃ u, e = .returned u ∧ Kd.R (Kd.int .i64) 3 w' w.heap.size (fun _ => True) u (xs.map CJoins.jn) ∧ Below w.heap.size w w' := by
 have H := Aside0.mk h
 have HM := Aside0.mk hm
 have HX := Aside0.mk hx
 clear h hm hx
 go_enter Tryz.func51, Tryz.ntmps51
 go_wp2_with (go_at_call 109; refine (each_c H.out HX.out HM.out).mono ?_; rintro e w2 ⟨u, rfl, hr, hb⟩; have HR := Aside0.mk hr; have HB := Aside0.mk hb; clear hr hb)
 go_ret
 exact ⟨_, rfl, HR.out, HB.out⟩
end Go.Proofs.YtemhccjjcioodaaGreat.KProps
end
