/- Cut. -/
import Derived.Test.YtemhccjjcioodaaGreatProg
import Derived.Below
import Derived.Deep.Draws
import Derived.Deep.AppendLies
import Derived.Maps.AppendAt
import Derived.OwnWalk
import Derived.Laws.BytesArg
import Derived.Laws.MakeOwn
import Derived.Laws.OwnMore
import Derived.Deep.OwnRows
import Derived.Tactics
import Derived.Lib.ConvBytes
import Derived.Laws.Slices
import Derived.WalkKit
import Derived.KernelRfl
import Derived.RowKit3
import Derived.Deep.LoopGhost
import Derived.Deep.QuietTactic
import Derived.BigQuiet
import Derived.WideLaws
import Derived.Deep.DeepCutAuto
import Derived.Deep.CutBlock
import Derived.Deep.RegionHeld3
import Derived.Laws.Rows
import Derived.Lib.AppendStr
import Derived.ArgAppend
import Derived.Laws.IdiomCopy
import Derived.OrdersHeld
import Derived.Laws.BitsLemmas
import Derived.RowKit
import Derived.Test.YtemhccjjcioodaaGreatKWWords
import Derived.Test.YtemhccjjcioodaaGreatKWMore
import Derived.Test.YtemhccjjcioodaaGreatKPJoinFormsx1
import Derived.Test.YtemhccjjcioodaaGreatKPEmbedJoinsx0
import Derived.Test.YtemhccjjcioodaaGreatKCBase
import Derived.IntWalk
import Derived.Shelf.SlSortCmp.WholeK
import Derived.Shelf.SlSortCmp.NoneTotal
import Derived.Shelf.SlicesG.Cmp
import Derived.Ground.SlgcProg
import Derived.Ground.SlsfProg
import Derived.Test.YtemhccjjcioodaaGreatKAl
set_option linter.unusedSimpArgs false
set_option linter.unusedVariables false
set_option maxRecDepth 100000
set_option maxHeartbeats 16000000
namespace Go.Proofs.YtemhccjjcioodaaGreat
open Go.RowKit YtemhccjjcioodaaGreatW.PrintLast YtemhccjjcioodaaGreatW.PrintMore YtemhccjjcioodaaGreatW.PrintWords
section
namespace PJoinForms

attribute [local go_sem] max2_int min2_int max_two min_two max_three min_three max_four min_four
mutual
def naskhref13_Ahead.j0 : Nat → List Int → Int → Bool → Option (Int)
 | 0, _, _, _ => none
 | k + 1, x0, x1, x13 => if x13 = true then (some (-1)) else (naskhref13_Ahead.l0 k x0 (wrap64 (x1 - 1)))
def naskhref13_Ahead.l0 : Nat → List Int → Int → Option (Int)
 | 0, _, _ => none
 | k + 1, x0, x5 => if x5 ≥ 0 then (if 0 ≤ x5 then (if x5 < (x0.length : Int) then (if (rd x0 x5) = 1 then (naskhref13_Ahead.l0 k x0 (wrap64 (x5 - 1))) else (some x5)) else (none)) else (none)) else (some (-1))
end
def naskhref13_Ahead.f (k : Nat) (l0 : List Int) (a1 : Int) : Option (Int) := if a1 < 0 then (naskhref13_Ahead.j0 k l0 a1 true) else (naskhref13_Ahead.j0 k l0 a1 (decide (a1 ≥ (l0.length : Int))))
theorem naskhref13_Ahead.calls (k : Nat) (A0 : Option Addr) (c0 : Nat) (l0 : List Int) (a1 : Int) (r : Int) (w : World) (hr0 : Kd.C (Kd.int .i64) w A0 l0.length l0) (hc0 : l0.length ≤ c0) (h : naskhref13_Ahead.f k l0 a1 = some r) :
 Calls Tryz.prog 108 #[.slice A0 l0.length c0, .int .i64 a1] w fun e w' => e = .returned (.int .i64 r) ∧ Drawn0 w w' := by
 have HR0 := aMk hr0
 have HC0 := aMk hc0
 clear hr0 hc0
 have H : (if a1 < 0 then (naskhref13_Ahead.j0 k l0 a1 true) else (naskhref13_Ahead.j0 k l0 a1 (decide (a1 ≥ (l0.length : Int))))) = some r := h
 clear h
 have HC3 := aMk H; clear H
 go_enter Tryz.func108, Tryz.ntmps108
 go_upto_region 1 with (fail)
 go_cut [13] (fun v13 wc => ∃ (kq : Nat) (x13_2 : Bool), v13 = .bool x13_2 ∧ Aside0 (naskhref13_Ahead.j0 kq l0 a1 x13_2 = some r) ∧ Aside0 (kq ≤ k) ∧ Drawn0 w wc)
 case first =>
  have H := HC3.out
  clear HC3
  by_cases c4 : a1 < 0
  ·rw [if_pos c4] at H
   have c4b0 := qdT c4
   clear c4
   (first | rw [c4b0] | (simp only [i64_w, i32_w]; rw [c4b0]) | skip)
   have H' := aMk H
   clear H
   go_wp2
   go_meet
   case rel => exact ⟨_, (true), rfl, H', ⟨by first | omega | exact qlR _⟩, by repeat (first | exact qDr _ | apply qDs)⟩
  ·rw [if_neg c4] at H
   have c4b0 := qdF c4
   clear c4
   (first | rw [c4b0] | (simp only [i64_w, i32_w]; rw [c4b0]) | skip)
   have H' := aMk H
   clear H
   go_wp2
   go_meet
   case rel => exact ⟨_, (decide (a1 ≥ (l0.length : Int))), rfl, H', ⟨by first | omega | exact qlR _⟩, by repeat (first | exact qDr _ | apply qDs)⟩
 case rest =>
  clear HC3
  obtain ⟨kq, x13_2, rfl, HA, HJ2, ⟨mc2, rfl⟩⟩ := hcut
  cases kq with
  | zero => exact absurd HA.out (by simp [naskhref13_Ahead.j0])
  | succ kj2 =>
   have H := HA.out
   clear HA
   simp only [naskhref13_Ahead.j0] at H
   by_cases c5 : x13_2 = true
   ·subst c5
    rw [if_pos rfl] at H
    obtain rfl := qoI H
    go_wp2
    go_ret
    exact ⟨by first | rfl | (simp; done) | (simp [*]; done), by repeat (first | exact qDr _ | apply qDs)⟩
   ·replace c5 := qbE.mpr c5
    subst c5
    rw [if_neg (show ¬ (false = true) by decide)] at H
    have H' := aMk H
    clear H
    go_wp2
    go_loopg [5] kj2 (fun kq v5 w' => ∃ (x5_2 : Int), v5 = .int .i64 x5_2 ∧ Aside0 (naskhref13_Ahead.l0 kq l0 x5_2 = some r) ∧ Aside0 (kq ≤ kj2) ∧ Drawn0 w w')
    case atStart => exact ⟨(wrap64 (a1 - 1)), rfl, H', ⟨qlR _⟩, by repeat (first | exact qDr _ | apply qDs)⟩
    case round =>
     clear H'
     obtain ⟨x5_2, rfl, HA, HK2, ⟨m2, rfl⟩⟩ := hrel
     cases gk with
     | zero => exact absurd HA.out (by simp [naskhref13_Ahead.l0])
     | succ k2 =>
      have H := HA.out
      clear HA
      simp only [naskhref13_Ahead.l0] at H
      by_cases c6 : x5_2 ≥ 0
      ·rw [if_pos c6] at H
       have c6b0 := qdT c6
       clear c6
       by_cases c7 : 0 ≤ x5_2
       ·rw [if_pos c7] at H
        have c7b0 := qdT c7
        clear c7
        by_cases c8 : x5_2 < (l0.length : Int)
        ·rw [if_pos c8] at H
         have c8b0 := qdT c8
         clear c8
         by_cases c9 : (rd l0 x5_2) = 1
         ·rw [if_pos c9] at H
          have c9b0 : ((rd l0 x5_2) == 1) = true := beq_iff_eq.mpr c9
          have c9b1 : ((rd l0 x5_2) != 1) = false := bne_eq_false_iff_eq.mpr c9
          clear c9
          have H' := aMk H
          clear H
          have p120 : 0 ≤ (x5_2 : Int) := qoD (by assumption)
          have q120 : x5_2 < (l0.length : Int) := qoD (by assumption)
          obtain ⟨ad120, e120, hx120_0⟩ := Kd.at_int HR0.out x5_2 p120 q120
          cases e120
          replace p120 := eq_true p120
          replace q120 := eq_true q120
          go_wp2
          go_roundg k2
          case measure => have := HJ2.out; have := HK2.out; omega
          case rel => exact ⟨(wrap64 (x5_2 - 1)), rfl, H', ⟨by have := HJ2.out; have := HK2.out; omega⟩, by repeat (first | exact qDr _ | apply qDs)⟩
         ·rw [if_neg c9] at H
          have c9b0 : ((rd l0 x5_2) == 1) = false := beq_eq_false_iff_ne.mpr c9
          have c9b1 : ((rd l0 x5_2) != 1) = true := bne_iff_ne.mpr c9
          obtain rfl := qoI H
          have p120 : 0 ≤ (x5_2 : Int) := qoD (by assumption)
          have q120 : x5_2 < (l0.length : Int) := qoD (by assumption)
          obtain ⟨ad120, e120, hx120_0⟩ := Kd.at_int HR0.out x5_2 p120 q120
          cases e120
          replace p120 := eq_true p120
          replace q120 := eq_true q120
          go_wp2
          go_ret
          exact ⟨by first | rfl | (simp; done) | (simp [*]; done), by repeat (first | exact qDr _ | apply qDs)⟩
        ·rw [if_neg c8] at H
         exact absurd H (by simp)
       ·rw [if_neg c7] at H
        exact absurd H (by simp)
      ·rw [if_neg c6] at H
       have c6b0 := qdF c6
       clear c6
       obtain rfl := qoI H
       go_wp2
       go_ret
       exact ⟨by first | rfl | (simp; done) | (simp [*]; done), by repeat (first | exact qDr _ | apply qDs)⟩
mutual
def naskhref13_Behind.j0 : Nat → List Int → Int → Bool → Option (Int)
 | 0, _, _, _ => none
 | k + 1, x0, x1, x13 => if x13 = true then (some (-1)) else (naskhref13_Behind.l0 k x0 (wrap64 (x1 + 1)))
def naskhref13_Behind.l0 : Nat → List Int → Int → Option (Int)
 | 0, _, _ => none
 | k + 1, x0, x5 => if x5 < (x0.length : Int) then (if 0 ≤ x5 then (if (rd x0 x5) = 1 then (naskhref13_Behind.l0 k x0 (wrap64 (x5 + 1))) else (some x5)) else (none)) else (some (-1))
end
def naskhref13_Behind.f (k : Nat) (l0 : List Int) (a1 : Int) : Option (Int) := if a1 < 0 then (naskhref13_Behind.j0 k l0 a1 true) else (naskhref13_Behind.j0 k l0 a1 (decide (a1 ≥ (l0.length : Int))))
theorem naskhref13_Behind.calls (k : Nat) (A0 : Option Addr) (c0 : Nat) (l0 : List Int) (a1 : Int) (r : Int) (w : World) (hr0 : Kd.C (Kd.int .i64) w A0 l0.length l0) (hc0 : l0.length ≤ c0) (h : naskhref13_Behind.f k l0 a1 = some r) :
 Calls Tryz.prog 26 #[.slice A0 l0.length c0, .int .i64 a1] w fun e w' => e = .returned (.int .i64 r) ∧ Drawn0 w w' := by
 have HR0 := aMk hr0
 have HC0 := aMk hc0
 clear hr0 hc0
 have H : (if a1 < 0 then (naskhref13_Behind.j0 k l0 a1 true) else (naskhref13_Behind.j0 k l0 a1 (decide (a1 ≥ (l0.length : Int))))) = some r := h
 clear h
 have HC3 := aMk H; clear H
 go_enter Tryz.func26, Tryz.ntmps26
 go_upto_region 1 with (fail)
 go_cut [13] (fun v13 wc => ∃ (kq : Nat) (x13_2 : Bool), v13 = .bool x13_2 ∧ Aside0 (naskhref13_Behind.j0 kq l0 a1 x13_2 = some r) ∧ Aside0 (kq ≤ k) ∧ Drawn0 w wc)
 case first =>
  have H := HC3.out
  clear HC3
  by_cases c4 : a1 < 0
  ·rw [if_pos c4] at H
   have c4b0 := qdT c4
   clear c4
   (first | rw [c4b0] | (simp only [i64_w, i32_w]; rw [c4b0]) | skip)
   have H' := aMk H
   clear H
   go_wp2
   go_meet
   case rel => exact ⟨_, (true), rfl, H', ⟨by first | omega | exact qlR _⟩, by repeat (first | exact qDr _ | apply qDs)⟩
  ·rw [if_neg c4] at H
   have c4b0 := qdF c4
   clear c4
   (first | rw [c4b0] | (simp only [i64_w, i32_w]; rw [c4b0]) | skip)
   have H' := aMk H
   clear H
   go_wp2
   go_meet
   case rel => exact ⟨_, (decide (a1 ≥ (l0.length : Int))), rfl, H', ⟨by first | omega | exact qlR _⟩, by repeat (first | exact qDr _ | apply qDs)⟩
 case rest =>
  clear HC3
  obtain ⟨kq, x13_2, rfl, HA, HJ2, ⟨mc2, rfl⟩⟩ := hcut
  cases kq with
  | zero => exact absurd HA.out (by simp [naskhref13_Behind.j0])
  | succ kj2 =>
   have H := HA.out
   clear HA
   simp only [naskhref13_Behind.j0] at H
   by_cases c5 : x13_2 = true
   ·subst c5
    rw [if_pos rfl] at H
    obtain rfl := qoI H
    go_wp2
    go_ret
    exact ⟨by first | rfl | (simp; done) | (simp [*]; done), by repeat (first | exact qDr _ | apply qDs)⟩
   ·replace c5 := qbE.mpr c5
    subst c5
    rw [if_neg (show ¬ (false = true) by decide)] at H
    have H' := aMk H
    clear H
    go_wp2
    go_loopg [5] kj2 (fun kq v5 w' => ∃ (x5_2 : Int), v5 = .int .i64 x5_2 ∧ Aside0 (naskhref13_Behind.l0 kq l0 x5_2 = some r) ∧ Aside0 (kq ≤ kj2) ∧ Drawn0 w w')
    case atStart => exact ⟨(wrap64 (a1 + 1)), rfl, H', ⟨qlR _⟩, by repeat (first | exact qDr _ | apply qDs)⟩
    case round =>
     clear H'
     obtain ⟨x5_2, rfl, HA, HK2, ⟨m2, rfl⟩⟩ := hrel
     cases gk with
     | zero => exact absurd HA.out (by simp [naskhref13_Behind.l0])
     | succ k2 =>
      have H := HA.out
      clear HA
      simp only [naskhref13_Behind.l0] at H
      by_cases c6 : x5_2 < (l0.length : Int)
      ·rw [if_pos c6] at H
       have c6b0 := qdT c6
       clear c6
       by_cases c7 : 0 ≤ x5_2
       ·rw [if_pos c7] at H
        have c7b0 := qdT c7
        clear c7
        by_cases c8 : (rd l0 x5_2) = 1
        ·rw [if_pos c8] at H
         have c8b0 : ((rd l0 x5_2) == 1) = true := beq_iff_eq.mpr c8
         have c8b1 : ((rd l0 x5_2) != 1) = false := bne_eq_false_iff_eq.mpr c8
         clear c8
         have H' := aMk H
         clear H
         have p121 : 0 ≤ (x5_2 : Int) := qoD (by assumption)
         have q121 : x5_2 < (l0.length : Int) := qoD (by assumption)
         obtain ⟨ad121, e121, hx121_0⟩ := Kd.at_int HR0.out x5_2 p121 q121
         cases e121
         replace p121 := eq_true p121
         replace q121 := eq_true q121
         go_wp2
         go_roundg k2
         case measure => have := HJ2.out; have := HK2.out; omega
         case rel => exact ⟨(wrap64 (x5_2 + 1)), rfl, H', ⟨by have := HJ2.out; have := HK2.out; omega⟩, by repeat (first | exact qDr _ | apply qDs)⟩
        ·rw [if_neg c8] at H
         have c8b0 : ((rd l0 x5_2) == 1) = false := beq_eq_false_iff_ne.mpr c8
         have c8b1 : ((rd l0 x5_2) != 1) = true := bne_iff_ne.mpr c8
         obtain rfl := qoI H
         have p121 : 0 ≤ (x5_2 : Int) := qoD (by assumption)
         have q121 : x5_2 < (l0.length : Int) := qoD (by assumption)
         obtain ⟨ad121, e121, hx121_0⟩ := Kd.at_int HR0.out x5_2 p121 q121
         cases e121
         replace p121 := eq_true p121
         replace q121 := eq_true q121
         go_wp2
         go_ret
         exact ⟨by first | rfl | (simp; done) | (simp [*]; done), by repeat (first | exact qDr _ | apply qDs)⟩
       ·rw [if_neg c7] at H
        exact absurd H (by simp)
      ·rw [if_neg c6] at H
       have c6b0 := qdF c6
       clear c6
       obtain rfl := qoI H
       go_wp2
       go_ret
       exact ⟨by first | rfl | (simp; done) | (simp [*]; done), by repeat (first | exact qDr _ | apply qDs)⟩
def naskhref13_Joined.f (k : Nat) (l0 : List Int) (a1 : Int) : Option Bool := (naskhref13_Behind.f k l0 a1).bind fun t => if t < 0 then some false else if 0 ≤ a1 ∧ a1 < (l0.length : Int) ∧ 0 ≤ t ∧ t < (l0.length : Int) then some ((rd l0 a1 == 3 || rd l0 a1 == 4 || rd l0 a1 == 5) && (rd l0 t == 3 || rd l0 t == 2 || rd l0 t == 5)) else none
theorem naskhref13_Joined.calls (k : Nat) (A0 : Option Addr) (c0 : Nat) (l0 : List Int) (a1 : Int) (r : Bool) (w : World) (hr0 : Kd.C (Kd.int .i64) w A0 l0.length l0) (hc0 : l0.length ≤ c0) (h : naskhref13_Joined.f k l0 a1 = some r) :
 Calls Tryz.prog 24 #[.slice A0 l0.length c0, .int .i64 a1] w fun e w' => e = .returned (.bool r) ∧ Drawn0 w w' := by
 obtain ⟨t, ht, hr⟩ := qoB.mp h
 have HT := aMk ht
 have HR0 := aMk hr0
 have HC0 := aMk hc0
 clear h ht hr0 hc0
 by_cases h0 : t < 0
 ·rw [if_pos h0] at hr
  obtain rfl := qoI hr
  clear hr
  go_enter Tryz.func24, Tryz.ntmps24
  go_wp2_with (first | (go_at_call 26; refine (naskhref13_Behind.calls k A0 c0 l0 a1 t _ HR0.out HC0.out HT.out).mono ?_; rintro e w' ⟨rfl, ⟨nd, rfl⟩⟩))
  go_ret
  exact ⟨rfl, ⟨_, rfl⟩⟩
 ·rw [if_neg h0] at hr
  split at hr
  ·rename_i hc
   obtain ⟨g0, g1, g2, g3⟩ := hc
   obtain rfl := qoI hr
   obtain ⟨ad, ea, x0⟩ := Kd.at_int HR0.out a1 g0 g1
   obtain ⟨ad', ea', y0⟩ := Kd.at_int HR0.out t g2 g3
   subst ea
   obtain rfl := qoI ea'
   clear hr ea'
   generalize rd l0 a1 = x at x0 ⊢
   generalize rd l0 t = y at y0 ⊢
   go_enter Tryz.func24, Tryz.ntmps24
   go_upto_region 4 with (first | (go_at_call 26; refine (naskhref13_Behind.calls k (some ad) c0 l0 a1 t _ HR0.out HC0.out HT.out).mono ?_; rintro e w' ⟨rfl, ⟨nd, rfl⟩⟩))
   have d0 : (w.drewN nd).drew.cell? (ad.add a1.toNat) = some (.int .i64 x) := x0
   have d1 : (w.drewN nd).drew.cell? (ad.add t.toNat) = some (.int .i64 y) := y0
   refine start_ (n := 10) (S := (fun W => W.cell? (ad.add a1.toNat) = some (.int .i64 x) ∧ W.cell? (ad.add t.toNat) = some (.int .i64 y))) (ds := []) #[false, false, false, false, false, false, false, false, false, false] (by kernel_rfl) (by kernel_rfl) (by rfl) (⟨d0, d1⟩) (fun hS0 => ?_)
   refine pure_ (i := 0) (N := (some 13)) (v := ?_) (a' := ?_) #[true, false, false, false, false, false, false, false, false, false] rfl rfl (by kernel_rfl) (fun _ _ _ h => h) (Or.inl ⟨by rfl, ?_⟩) ?_ ?_
   rotate_left
   ·intro w'
    go_simp
    with_reducible rfl
   rotate_left
   ·simp only [Act.put, sqA, sq0, sq1]
    rfl
   refine pure_ (i := 1) (N := (some 14)) (v := ?_) (a' := ?_) #[true, true, false, false, false, false, false, false, false, false] rfl rfl (by kernel_rfl) (fun _ _ _ h => h) (Or.inl ⟨by rfl, ?_⟩) ?_ ?_
   rotate_left
   ·intro w'
    go_simp
    with_reducible rfl
   rotate_left
   ·simp only [Act.put, sqA, sq0, sq1]
    rfl
   refine pure_ (i := 2) (N := (some 15)) (v := ?_) (a' := ?_) #[true, true, true, false, false, false, false, false, false, false] rfl rfl (by kernel_rfl) (fun _ _ _ h => h) (Or.inl ⟨by rfl, ?_⟩) ?_ ?_
   rotate_left
   ·intro w'
    go_simp
    with_reducible rfl
   rotate_left
   ·simp only [Act.put, sqA, sq0, sq1]
    rfl
   refine take_ (i := 3) (N := (some 16)) (v := ?_) (a' := ?_) #[true, true, true, true, false, false, false, false, false, false] rfl rfl (by kernel_rfl) (fun _ _ _ h => h) (Or.inl ⟨by rfl, ?_⟩) hS0 ?_ ?_
   rotate_left
   ·intro w' s0
    obtain ⟨hx0, hx1⟩ := s0
    go_simp
    with_reducible rfl
   rotate_left
   ·simp only [Act.put, sqA, sq0, sq1]
    rfl
   refine pure_ (i := 8) (N := (some 6)) (v := ?_) (a' := ?_) #[true, true, true, true, false, false, false, false, true, false] rfl rfl (by kernel_rfl) (fun _ _ _ h => h) (Or.inl ⟨by rfl, ?_⟩) ?_ ?_
   rotate_left
   ·intro w'
    go_simp
    with_reducible rfl
   rotate_left
   ·simp only [Act.put, sqA, sq0, sq1]
    rfl
   refine pure_ (i := 4) (N := (some 17)) (v := ?_) (a' := ?_) #[true, true, true, true, true, false, false, false, true, false] rfl rfl (by kernel_rfl) (fun _ _ _ h => h) (Or.inl ⟨by rfl, ?_⟩) ?_ ?_
   rotate_left
   ·intro w'
    go_simp
    with_reducible rfl
   rotate_left
   ·simp only [Act.put, sqA, sq0, sq1]
    rfl
   refine pure_ (i := 5) (N := (some 18)) (v := ?_) (a' := ?_) #[true, true, true, true, true, true, false, false, true, false] rfl rfl (by kernel_rfl) (fun _ _ _ h => h) (Or.inl ⟨by rfl, ?_⟩) ?_ ?_
   rotate_left
   ·intro w'
    go_simp
    with_reducible rfl
   rotate_left
   ·simp only [Act.put, sqA, sq0, sq1]
    rfl
   refine pure_ (i := 6) (N := (some 19)) (v := ?_) (a' := ?_) #[true, true, true, true, true, true, true, false, true, false] rfl rfl (by kernel_rfl) (fun _ _ _ h => h) (Or.inl ⟨by rfl, ?_⟩) ?_ ?_
   rotate_left
   ·intro w'
    go_simp
    with_reducible rfl
   rotate_left
   ·simp only [Act.put, sqA, sq0, sq1]
    rfl
   refine take_ (i := 7) (N := (some 20)) (v := ?_) (a' := ?_) #[true, true, true, true, true, true, true, true, true, false] rfl rfl (by kernel_rfl) (fun _ _ _ h => h) (Or.inl ⟨by rfl, ?_⟩) hS0 ?_ ?_
   rotate_left
   ·intro w' s0
    obtain ⟨hx0, hx1⟩ := s0
    go_simp
    with_reducible rfl
   rotate_left
   ·simp only [Act.put, sqA, sq0, sq1]
    rfl
   refine pure_ (i := 9) (N := (some 7)) (v := ?_) (a' := ?_) #[true, true, true, true, true, true, true, true, true, true] rfl rfl (by kernel_rfl) (fun _ _ _ h => h) (Or.inl ⟨by rfl, ?_⟩) ?_ ?_
   rotate_left
   ·intro w'
    go_simp
    with_reducible rfl
   rotate_left
   ·simp only [Act.put, sqA, sq0, sq1]
    rfl
   refine done_ (by kernel_rfl) ?_
   clear HT HR0 HC0 x0 y0 d0 d1 g0 g1 g2 g3 h0
   go_wp2 <;> (go_ret; refine ⟨?_, ⟨nd + 1, rfl⟩⟩; simp [*])
  ·cases hr
end PJoinForms
end
section
namespace PJoinForms

attribute [local go_sem] max2_int min2_int max_two min_two max_three min_three max_four min_four
mutual
def naskhref13_Forms.l0 : Nat → List Int → List Int → Int → Option (List Int)
 | 0, _, _, _ => none
 | k + 1, x0, x3, x4 => if x4 < (x0.length : Int) then (if 0 ≤ x4 then ((naskhref13_Ahead.f k x0 x4).bind fun t126 => ((naskhref13_Joined.f k x0 t126).bind fun t127 => (if (rd x0 x4) = 3 then (naskhref13_Forms.j1 k x0 x3 x4 t127 0 true) else (if (rd x0 x4) = 2 then (naskhref13_Forms.j1 k x0 x3 x4 t127 0 true) else (naskhref13_Forms.j1 k x0 x3 x4 t127 0 ((rd x0 x4) == 4)))))) else (none)) else (some x3)
def naskhref13_Forms.j1 : Nat → List Int → List Int → Int → Bool → Int → Bool → Option (List Int)
 | 0, _, _, _, _, _, _ => none
 | k + 1, x0, x3, x4, x6, x7, x32 => if x32 = true then (if x6 = true then ((naskhref13_Joined.f k x0 x4).bind fun t128 => (naskhref13_Forms.j2 k x0 x3 x4 x6 t128)) else (naskhref13_Forms.j2 k x0 x3 x4 x6 false)) else (if x3.length < 17592186044416 then (naskhref13_Forms.l0 k x0 (x3 ++ [x7]) (wrap64 (x4 + 1))) else (none))
def naskhref13_Forms.j2 : Nat → List Int → List Int → Int → Bool → Bool → Option (List Int)
 | 0, _, _, _, _, _ => none
 | k + 1, x0, x3, x4, x6, x33 => if x33 = true then (if x3.length < 17592186044416 then (naskhref13_Forms.l0 k x0 (x3 ++ [4]) (wrap64 (x4 + 1))) else (none)) else (if x6 = true then (if x3.length < 17592186044416 then (naskhref13_Forms.l0 k x0 (x3 ++ [2]) (wrap64 (x4 + 1))) else (none)) else ((naskhref13_Joined.f k x0 x4).bind fun t135 => (if t135 = true then (if x3.length < 17592186044416 then (naskhref13_Forms.l0 k x0 (x3 ++ [3]) (wrap64 (x4 + 1))) else (none)) else (if x3.length < 17592186044416 then (naskhref13_Forms.l0 k x0 (x3 ++ [1]) (wrap64 (x4 + 1))) else (none)))))
end
def naskhref13_Forms.f (k : Nat) (l0 : List Int) : Option (List Int) := naskhref13_Forms.l0 k l0 ([] : List Int) 0
end PJoinForms
end
section
namespace PureJoin
open PJoinForms U UJoin
theorem there_eq (xs : List Int) (i : Int) : join_there.f xs i = some (decide (0 ≤ i ∧ i < xs.length)) := by
 unfold join_there.f
 by_cases h : i ≥ 0
 ·rw [if_pos h]
  by_cases h2 : i < xs.length <;> simp [h, h2]
 ·rw [if_neg h]
  have : ¬ (0 ≤ i ∧ i < xs.length) := by omega
  simp [this]
theorem walk_up (xs : List Int) (hm : xs.length ≤ 1000000) (n : Nat) : ∀ k : Nat, k + n = xs.length → Ev (fun f => join_walk.l0 f xs k 1) (up xs k n) := by
 induction n with
 | zero =>
  intro k hk
  refine Ev.step (fun f => by rw [join_walk.l0]) ?_
  refine ev_bindc (there_eq xs k) ?_
  rw [qdF (by omega)]
  exact ev_neg (by simp) (ev_now _)
 | succ n ih =>
  intro k hk
  refine Ev.step (fun f => by rw [join_walk.l0]) ?_
  refine ev_bindc (there_eq xs k) ?_
  rw [qdT (by omega)]
  refine ev_pos rfl (ev_pos (by omega) (ev_pos (by omega) ?_))
  unfold UJoin.up
  refine ev_ite (fun h => ?_) (fun h => ?_)
  ·rw [if_pos h, w64 (by omega) (by omega)]
   exact ih (k + 1) (by omega)
  ·rw [if_neg h]
   exact ev_now _
theorem behind_ev (xs : List Int) (hm : xs.length ≤ 1000000) (i : Int) : Ev (fun k => join_Behind.f k xs i) (behindI xs i) := by
 unfold join_Behind.f join_walk.f behindI
 refine ev_bind (a := behindI xs i) ?_ (ev_now _)
 refine ev_bindc (there_eq xs i) ?_
 unfold behindI
 by_cases h : 0 ≤ i ∧ i < xs.length
 ·rw [qdT h, if_pos h]
  refine ev_pos rfl ?_
  rw [w64 (by omega) (by omega)]
  have := walk_up xs hm (xs.length - (i.toNat + 1)) (i.toNat + 1) (by omega)
  rw [show ((i.toNat + 1 : Nat) : Int) = i + 1 by omega] at this
  exact this
 ·rw [qdF h, if_neg h]
  exact ev_neg (by simp) (ev_now _)
theorem behindI_range (xs : List Int) (i : Int) : behindI xs i = -1 ∨ (i < behindI xs i ∧ behindI xs i < xs.length ∧ 0 ≤ i) := by
 unfold behindI
 by_cases h : 0 ≤ i ∧ i < xs.length
 ·rw [if_pos h]
  unfold next
  rcases up_range xs (xs.length - (i.toNat + 1)) (i.toNat + 1) with h1 | h1
  ·exact .inl h1
  ·right; omega
 ·rw [if_neg h]
  exact .inl rfl
theorem behind_eq (t : Int) : join_behind.f t = some (behindB t) := by
 unfold join_behind.f behindB
 by_cases h1 : t = 3
 ·simp [h1]
 ·by_cases h2 : t = 4
  ·simp [h2]
  ·by_cases h3 : t = 5 <;> simp [h1, h2, h3]
theorem ahead_eq (t : Int) : join_ahead.f t = some (aheadB t) := by
 unfold join_ahead.f aheadB
 by_cases h1 : t = 3
 ·simp [h1]
 ·by_cases h2 : t = 2
  ·simp [h2]
  ·by_cases h3 : t = 5 <;> simp [h1, h2, h3]
theorem joined_ev (xs : List Int) (hm : xs.length ≤ 1000000) (i : Int) : Ev (fun k => join_Joined.f k xs i) (joinedI xs i) := by
 unfold join_Joined.f
 refine ev_bind (behind_ev xs hm i) ?_
 unfold joinedI
 rcases behindI_range xs i with h | ⟨h1, h2, h3⟩
 ·rw [h]
  exact ev_neg (by omega) (ev_now _)
 ·refine ev_pos (by omega) (ev_pos (by omega) (ev_pos (by omega) (ev_bindc (behind_eq _) ?_)))
  rw [qdT (show 0 ≤ behindI xs i by omega)]
  cases behindB (rd xs i)
  ·exact ev_neg (by simp) (ev_now _)
  ·refine ev_pos rfl (ev_pos (by omega) (ev_pos (by omega) (ev_bindc (ahead_eq _) ?_)))
   exact ev_eq (ev_now _) (by simp)
theorem rup (xs : List Int) (hm : xs.length ≤ 1000000) (n : Nat) : ∀ k : Nat, k + n = xs.length → Ev (fun f => naskhref13_Behind.l0 f xs k) (up xs k n) := by
 induction n with
 | zero =>
  intro k hk
  refine Ev.step (fun f => by rw [naskhref13_Behind.l0]) ?_
  exact ev_neg (by omega) (ev_now _)
 | succ n ih =>
  intro k hk
  refine Ev.step (fun f => by rw [naskhref13_Behind.l0]) ?_
  refine ev_pos (by omega) (ev_pos (by omega) ?_)
  unfold UJoin.up
  refine ev_ite (fun h => ?_) (fun h => ?_)
  ·rw [if_pos h, w64 (by omega) (by omega)]
   exact ih (k + 1) (by omega)
  ·rw [if_neg h]
   exact ev_now _
theorem rdown (xs : List Int) (hm : xs.length ≤ 1000000) (k : Nat) : k ≤ xs.length → Ev (fun f => naskhref13_Ahead.l0 f xs ((k : Int) - 1)) (down xs k) := by
 induction k with
 | zero =>
  intro hk
  refine Ev.step (fun f => by rw [naskhref13_Ahead.l0]) ?_
  exact ev_neg (by omega) (ev_now _)
 | succ k ih =>
  intro hk
  rw [show ((k + 1 : Nat) : Int) - 1 = k by omega]
  refine Ev.step (fun f => by rw [naskhref13_Ahead.l0]) ?_
  refine ev_pos (by omega) (ev_pos (by omega) (ev_pos (by omega) ?_))
  unfold down
  refine ev_ite (fun h => ?_) (fun h => ?_)
  ·rw [if_pos h, w64 (by omega) (by omega)]
   exact ih (by omega)
  ·rw [if_neg h]
   exact ev_now _
theorem rahead_ev (xs : List Int) (hm : xs.length ≤ 1000000) (i : Int) : Ev (fun k => naskhref13_Ahead.f k xs i) (aheadI xs i) := by
 have jt : Ev (fun k => naskhref13_Ahead.j0 k xs i true) (-1) := Ev.step (fun k => by rw [naskhref13_Ahead.j0]) (ev_pos rfl (ev_now _))
 unfold naskhref13_Ahead.f aheadI
 by_cases h0 : i < 0
 ·rw [if_neg (by omega)]
  exact ev_pos h0 jt
 ·refine ev_neg h0 ?_
  by_cases h1 : i ≥ xs.length
  ·rw [if_neg (by omega), qdT h1]
   exact jt
  ·rw [if_pos (by omega), qdF h1]
   refine Ev.step (fun k => by rw [naskhref13_Ahead.j0]) (ev_neg (by simp) ?_)
   rw [w64 (by omega) (by omega)]
   have := rdown xs hm i.toNat (by omega)
   rw [show ((i.toNat : Nat) : Int) - 1 = i - 1 by omega] at this
   exact this
theorem rbehind_ev (xs : List Int) (hm : xs.length ≤ 1000000) (i : Int) : Ev (fun k => naskhref13_Behind.f k xs i) (behindI xs i) := by
 have jt : Ev (fun k => naskhref13_Behind.j0 k xs i true) (-1) := Ev.step (fun k => by rw [naskhref13_Behind.j0]) (ev_pos rfl (ev_now _))
 unfold naskhref13_Behind.f behindI
 by_cases h0 : i < 0
 ·rw [if_neg (by omega)]
  exact ev_pos h0 jt
 ·refine ev_neg h0 ?_
  by_cases h1 : i ≥ xs.length
  ·rw [if_neg (by omega), qdT h1]
   exact jt
  ·rw [if_pos (by omega), qdF h1]
   refine Ev.step (fun k => by rw [naskhref13_Behind.j0]) (ev_neg (by simp) ?_)
   rw [w64 (by omega) (by omega)]
   have := rup xs hm (xs.length - (i.toNat + 1)) (i.toNat + 1) (by omega)
   rw [show ((i.toNat + 1 : Nat) : Int) = i + 1 by omega] at this
   exact this
theorem rjoined_ev (xs : List Int) (hm : xs.length ≤ 1000000) (i : Int) : Ev (fun k => naskhref13_Joined.f k xs i) (joinedI xs i) := by
 unfold naskhref13_Joined.f
 refine ev_bind (rbehind_ev xs hm i) ?_
 unfold joinedI
 rcases behindI_range xs i with h | ⟨h1, h2, h3⟩
 ·rw [h]
  exact ev_pos (by omega) (ev_now _)
 ·refine ev_neg (by omega) (ev_pos ⟨by omega, by omega, by omega, by omega⟩ ?_)
  rw [qdT (show 0 ≤ behindI xs i by omega)]
  generalize rd xs i = a
  generalize rd xs (behindI xs i) = b
  refine ev_const ?_
  unfold behindB aheadB
  by_cases a1 : a = 3 <;> by_cases a2 : a = 4 <;> by_cases a3 : a = 5 <;> by_cases b1 : b = 3 <;> by_cases b2 : b = 2 <;> simp [a1, a2, a3, b1, b2] <;> omega
end PureJoin
namespace CJoin3
open PJoinForms U CBase UJoin PureJoin
section
variable {v : Value} {xs : List Int} {w : World} (h : SL w v xs) (hm : xs.length ≤ 1000000) (i : Int)
include h hm
theorem behind_c : Calls Tryz.prog 180 #[v, .int .i64 i] w fun e w' => e = .returned (.int .i64 (behindI xs i)) ∧ Below w.heap.size w w' := by
 obtain ⟨A, c, rfl, hc, h⟩ := h
 obtain ⟨k, hk⟩ := (behind_ev xs hm i).rounds
 exact (join_Behind.calls k A c xs i _ w h hc hk).mono fun e w' h => ⟨h.1, h.2.below⟩
theorem joined_c : Calls Tryz.prog 179 #[v, .int .i64 i] w fun e w' => e = .returned (.bool (joinedI xs i)) ∧ Below w.heap.size w w' := by
 obtain ⟨A, c, rfl, hc, h⟩ := h
 obtain ⟨k, hk⟩ := (joined_ev xs hm i).rounds
 exact (join_Joined.calls k A c xs i _ w h hc hk).mono fun e w' h => ⟨h.1, h.2.below⟩
theorem rbehind_c : Calls Tryz.prog 26 #[v, .int .i64 i] w fun e w' => e = .returned (.int .i64 (behindI xs i)) ∧ Below w.heap.size w w' := by
 obtain ⟨A, c, rfl, hc, h⟩ := h
 obtain ⟨k, hk⟩ := (rbehind_ev xs hm i).rounds
 exact (naskhref13_Behind.calls k A c xs i _ w h hc hk).mono fun e w' h => ⟨h.1, h.2.below⟩
end
end CJoin3
end
section
namespace PGet

attribute [local go_sem] max2_int min2_int max_two min_two max_three min_three max_four min_four
-- the values' own types
structure S127 where
 f0 : Int
 f1 : Int
 f2 : Int
def z127 : S127 := ⟨(0 : Int), (0 : Int), (0 : Int)⟩
def k127 : Kd S127 := Kd.iso (Kd.pair (Kd.int .i64) (Kd.pair (Kd.int .i64) (Kd.int .i64))) (fun x : S127 => (x.f0, x.f1, x.f2))
theorem k127_open {w : World} {x : S127} {cs : List Value} (h : k127.K w x cs) : cs = [.int .i64 x.f0, .int .i64 x.f1, .int .i64 x.f2] := by
 obtain ⟨_, _, rfl, rfl, ⟨_, _, rfl, rfl, rfl⟩⟩ := h
 exact rfl
theorem k127_mk (w : World) (x : S127)  : k127.K w x [.int .i64 x.f0, .int .i64 x.f1, .int .i64 x.f2] := ⟨[.int .i64 x.f0], [.int .i64 x.f1, .int .i64 x.f2], rfl, rfl, ⟨[.int .i64 x.f1], [.int .i64 x.f2], rfl, rfl, rfl⟩⟩
def rd_T127 (xs : List S127) (i : Int) : S127 := xs.getD i.toNat z127
theorem at_T127 {w : World} {A : Option Addr} {n : Nat} {xs : List S127} (h : Kd.C k127 w A n xs) (i : Int) (h0 : 0 ≤ i) (h1 : i < n) : ∃ ad , A = some ad ∧ w.cell? (ad.add (i.toNat * 3)) = some (.int .i64 (rd_T127 xs i).f0) ∧ w.cell? ⟨(ad.add (i.toNat * 3)).block, (ad.add (i.toNat * 3)).off + 1, none⟩ = some (.int .i64 (rd_T127 xs i).f1) ∧ w.cell? ⟨(ad.add (i.toNat * 3)).block, (ad.add (i.toNat * 3)).off + 2, none⟩ = some (.int .i64 (rd_T127 xs i).f2) := by
 obtain ⟨ad, c, e, _, hK, hc0⟩ := Kd.C_get h z127 i h0 h1
 have hc : ∀ j u, c[j]? = some u → w.cell? (ad.add (i.toNat * 3 + j)) = some u := hc0
 obtain rfl := k127_open hK
 exact ⟨ad, e, hc 0 _ rfl, by rw [← add_field _ _ 1 (by omega)]; exact hc 1 _ rfl, by rw [← add_field _ _ 2 (by omega)]; exact hc 2 _ rfl⟩
end PGet
end
section
namespace PGet

attribute [local go_sem] max2_int min2_int max_two min_two max_three min_three max_four min_four
def naskhref06_Get.l0 : Nat → List (S127) → Int → Int → Int → Option (Int)
 | 0, _, _, _, _ => none
 | k + 1, x0, x1, x2, x7 => if x7 < (x0.length : Int) then (if 0 ≤ x7 then (if x2 ≥ ((rd_T127 x0 x7).f0) then (if x2 ≤ ((rd_T127 x0 x7).f1) then (some ((rd_T127 x0 x7).f2)) else (naskhref06_Get.l0 k x0 x1 x2 (wrap64 (x7 + 1)))) else (naskhref06_Get.l0 k x0 x1 x2 (wrap64 (x7 + 1)))) else (none)) else (some x1)
def naskhref06_Get.f (k : Nat) (l0 : List (S127)) (a1 : Int) (a2 : Int) : Option (Int) := naskhref06_Get.l0 k l0 a1 a2 0
theorem naskhref06_Get.calls (k : Nat) (A0 : Option Addr) (c0 : Nat) (l0 : List (S127)) (a1 : Int) (a2 : Int) (r : Int) (w : World) (hr0 : Kd.C k127 w A0 l0.length l0) (hc0 : l0.length ≤ c0) (h : naskhref06_Get.f k l0 a1 a2 = some r) :
 Calls Tryz.prog 124 #[.slice A0 l0.length c0, .int .i64 a1, .int .i64 a2] w fun e w' => e = .returned (.int .i64 r) ∧ Drawn0 w w' := by
 have HR0 := aMk hr0
 have HC0 := aMk hc0
 clear hr0 hc0
 have H : (naskhref06_Get.l0 k l0 a1 a2 0) = some r := h
 clear h
 have H' := aMk H
 clear H
 go_enter Tryz.func124, Tryz.ntmps124
 go_wp2
 go_loopg [7] k (fun kq v7 w' => ∃ (x7_1 : Int), v7 = .int .i64 x7_1 ∧ Aside0 (naskhref06_Get.l0 kq l0 a1 a2 x7_1 = some r) ∧ Aside0 (kq ≤ k) ∧ Drawn0 w w')
 case atStart => exact ⟨(0), (by first | rfl | (simp; done) | (simp [*]; done)), H', ⟨qlR _⟩, by repeat (first | exact qDr _ | apply qDs)⟩
 case round =>
  clear H'
  obtain ⟨x7_1, rfl, HA, HK1, ⟨m1, rfl⟩⟩ := hrel
  cases gk with
  | zero => exact absurd HA.out (by simp [naskhref06_Get.l0])
  | succ k1 =>
   have H := HA.out
   clear HA
   simp only [naskhref06_Get.l0] at H
   by_cases c4 : x7_1 < (l0.length : Int)
   ·rw [if_pos c4] at H
    have c4b0 := qdT c4
    clear c4
    by_cases c5 : 0 ≤ x7_1
    ·rw [if_pos c5] at H
     have c5b0 := qdT c5
     clear c5
     by_cases c6 : a2 ≥ ((rd_T127 l0 x7_1).f0)
     ·rw [if_pos c6] at H
      have c6b0 : decide (((rd_T127 l0 x7_1).f0) ≤ a2) = true := qdT c6
      clear c6
      by_cases c7 : a2 ≤ ((rd_T127 l0 x7_1).f1)
      ·rw [if_pos c7] at H
       have c7b0 := qdT c7
       clear c7
       obtain rfl := qoI H
       have p101 : 0 ≤ (x7_1 : Int) := qoD (by assumption)
       have q101 : x7_1 < (l0.length : Int) := qoD (by assumption)
       obtain ⟨ad101, e101, hx101_0, hx101_1, hx101_2⟩ := at_T127 HR0.out x7_1 p101 q101
       cases e101
       replace p101 := eq_true p101
       replace q101 := eq_true q101
       have p102 : 0 ≤ (x7_1 : Int) := qoD (by assumption)
       have q102 : x7_1 < (l0.length : Int) := qoD (by assumption)
       obtain ⟨ad102, e102, hx102_0, hx102_1, hx102_2⟩ := at_T127 HR0.out x7_1 p102 q102
       obtain rfl : ad101 = ad102 := (by injection e102)
       replace p102 := eq_true p102
       replace q102 := eq_true q102
       have p103 : 0 ≤ (x7_1 : Int) := qoD (by assumption)
       have q103 : x7_1 < (l0.length : Int) := qoD (by assumption)
       obtain ⟨ad103, e103, hx103_0, hx103_1, hx103_2⟩ := at_T127 HR0.out x7_1 p103 q103
       obtain rfl : ad101 = ad103 := (by injection e103)
       replace p103 := eq_true p103
       replace q103 := eq_true q103
       go_wp2
       go_ret
       exact ⟨by first | rfl | (simp; done) | (simp [*]; done), by repeat (first | exact qDr _ | apply qDs)⟩
      ·rw [if_neg c7] at H
       have c7b0 := qdF c7
       clear c7
       have H' := aMk H
       clear H
       have p101 : 0 ≤ (x7_1 : Int) := qoD (by assumption)
       have q101 : x7_1 < (l0.length : Int) := qoD (by assumption)
       obtain ⟨ad101, e101, hx101_0, hx101_1, hx101_2⟩ := at_T127 HR0.out x7_1 p101 q101
       cases e101
       replace p101 := eq_true p101
       replace q101 := eq_true q101
       have p102 : 0 ≤ (x7_1 : Int) := qoD (by assumption)
       have q102 : x7_1 < (l0.length : Int) := qoD (by assumption)
       obtain ⟨ad102, e102, hx102_0, hx102_1, hx102_2⟩ := at_T127 HR0.out x7_1 p102 q102
       obtain rfl : ad101 = ad102 := (by injection e102)
       replace p102 := eq_true p102
       replace q102 := eq_true q102
       go_wp2
       go_roundg k1
       case measure => have := HK1.out; omega
       case rel => exact ⟨(wrap64 (x7_1 + 1)), (by first | rfl | (simp; done) | (simp [*]; done)), H', ⟨by have := HK1.out; omega⟩, by repeat (first | exact qDr _ | apply qDs)⟩
     ·rw [if_neg c6] at H
      have c6b0 : decide (((rd_T127 l0 x7_1).f0) ≤ a2) = false := qdF c6
      clear c6
      have H' := aMk H
      clear H
      have p101 : 0 ≤ (x7_1 : Int) := qoD (by assumption)
      have q101 : x7_1 < (l0.length : Int) := qoD (by assumption)
      obtain ⟨ad101, e101, hx101_0, hx101_1, hx101_2⟩ := at_T127 HR0.out x7_1 p101 q101
      cases e101
      replace p101 := eq_true p101
      replace q101 := eq_true q101
      go_wp2
      go_roundg k1
      case measure => have := HK1.out; omega
      case rel => exact ⟨(wrap64 (x7_1 + 1)), (by first | rfl | (simp; done) | (simp [*]; done)), H', ⟨by have := HK1.out; omega⟩, by repeat (first | exact qDr _ | apply qDs)⟩
    ·rw [if_neg c5] at H
     exact absurd H (by simp)
   ·rw [if_neg c4] at H
    have c4b0 := qdF c4
    clear c4
    obtain rfl := qoI H
    go_wp2
    go_ret
    exact ⟨by first | rfl | (simp; done) | (simp [*]; done), by repeat (first | exact qDr _ | apply qDs)⟩
end PGet
end
section
namespace CJoins
open PGet U CBase
def getR : List S127 → Int → Int → Int
 | [], d, _ => d
 | r :: t, d, c => if r.f0 ≤ c ∧ c ≤ r.f1 then r.f2 else getR t d c
theorem get_loop (rs : List S127) (d c : Int) (hm : rs.length ≤ 1000000) (n : Nat) : ∀ i : Nat, i + n = rs.length → Ev (fun k => naskhref06_Get.l0 k rs d c i) (getR (rs.drop i) d c) := by
 induction n with
 | zero =>
  intro i hi
  refine Ev.step (fun k => by rw [naskhref06_Get.l0]) (ev_neg (by omega) (ev_eq (ev_now _) ?_))
  rw [List.drop_of_length_le (by omega)]
  rfl
 | succ n ih =>
  intro i hi
  have hrd : rd_T127 rs i = rs[i] := by
   unfold rd_T127
   rw [qtN, qgD, qgG (by omega)]
   rfl
  refine Ev.step (fun k => by rw [naskhref06_Get.l0]) (ev_pos (by omega) (ev_pos (by omega) ?_))
  rw [hrd, List.drop_eq_getElem_cons (l := rs) (show i < rs.length by omega), getR, w64 (by omega) (by omega)]
  have go := ih (i + 1) (by omega)
  refine ev_ite (fun h1 => ev_ite (fun h2 => ?_) (fun h2 => ?_)) (fun h1 => ?_)
  ·rw [if_pos ⟨h1, h2⟩]; exact ev_now _
  ·rw [if_neg (fun h => h2 h.2)]; exact go
  ·rw [if_neg (fun h => h1 h.1)]; exact go
theorem get_ev (rs : List S127) (d c : Int) (hm : rs.length ≤ 1000000) : Ev (fun k => naskhref06_Get.f k rs d c) (getR rs d c) := get_loop rs d c hm rs.length 0 (by omega)
def flat3 (rs : List S127) : List Value := rs.flatMap fun x => [.int .i64 x.f0, .int .i64 x.f1, .int .i64 x.f2]
def chunk3 : List Value → List S127
 | .int _ a :: .int _ b :: .int _ c :: r => ⟨a, b, c⟩ :: chunk3 r
 | _ => []
theorem flat3_get (rs : List S127) : ∀ (j : Nat) (x : S127), rs[j]? = some x → ∀ (i : Nat) (u : Value), ([.int .i64 x.f0, .int .i64 x.f1, .int .i64 x.f2] : List Value)[i]? = some u → (flat3 rs)[j * 3 + i]? = some u := by
 induction rs with
 | nil => intro j x h; simp at h
 | cons r t ih =>
  intro j x h i u hu
  have hi : i < 3 := by
   have := (List.getElem?_eq_some_iff.1 hu).1
   simpa using this
  cases j with
  | zero =>
   obtain rfl := qoI h
   unfold flat3
   rw [List.flatMap_cons, List.getElem?_append_left (by simp; omega)]
   simpa using hu
  | succ j =>
   have := ih j x h i u hu
   unfold flat3 at this ⊢
   rw [List.flatMap_cons, List.getElem?_append_right (by simp; omega)]
   simp only [List.length_cons, List.length_nil]
   rw [show (j + 1) * 3 + i - (0 + 1 + 1 + 1) = j * 3 + i by omega]
   exact this
theorem C_flat3 (w : World) (rs : List S127) (t : TypeId) (hm : rs.length ≤ 1000000) : Kd.C k127 (w.alloc (.cells (flat3 rs).toArray t)) (some ⟨w.heap.size, 0, none⟩) rs.length rs := by
 refine ⟨rfl, by omega, fun _ => ⟨_, rfl, fun j p hj => ⟨_, rfl, k127_mk _ p, fun i u hu => ?_⟩⟩⟩
 rw [add_plain, World.cell?_alloc_new]
 have := flat3_get rs j p hj i u hu
 show (flat3 rs).toArray[j * 3 + i]? = some u
 simpa using this
noncomputable def cellsJ : Array Value := match runF Tryz.prog 10 1 54 #[] (default : World) with
 | some (_, w') => match (w' : World).heap[0]? with | some (Obj.cells c _ _) => c | _ => #[]
 | none => #[]
noncomputable def rsJ : List S127 := chunk3 cellsJ.toList
theorem run96 (w : World) : runF Tryz.prog 10 1 54 #[] w = some (.slice (some ⟨w.heap.size, 0, none⟩) 68 68, w.alloc (.cells cellsJ 151)) := by kernel_rfl
theorem rsJ_length : rsJ.length = 68 := by kernel_rfl
theorem cellsJ_flat : cellsJ = (flat3 rsJ).toArray := by kernel_rfl
theorem ranges_c (w : World) : Calls Tryz.prog 54 #[] w fun e w' => e = .returned (.slice (some ⟨w.heap.size, 0, none⟩) rsJ.length 68) ∧ Kd.C k127 w' (some ⟨w.heap.size, 0, none⟩) rsJ.length rsJ ∧ Below w.heap.size w w' := by
 refine (runF_ok 10 1 54 #[] w _ _ (run96 w)).mono ?_
 rintro e W ⟨rfl, rfl⟩
 rw [rsJ_length]
 refine ⟨rfl, ?_, qbA (qBr _ _) _⟩
 have := C_flat3 w rsJ 151 (by rw [rsJ_length]; decide)
 rw [← cellsJ_flat, rsJ_length] at this
 exact this
noncomputable def jn (c : Int) : Int := getR rsJ 0 c
theorem join_c (c : Int) (w : World) : Calls Tryz.prog 69 #[.int .i64 c] w fun e w' => e = .returned (.int .i64 (jn c)) ∧ Below w.heap.size w w' := by
 obtain ⟨k, hk⟩ := (get_ev rsJ 0 c (by rw [rsJ_length]; decide)).rounds
 have HK := aMk hk; clear hk
 go_enter Tryz.func69, Tryz.ntmps69
 go_wp2_with fail
 refine (ranges_c _).mono ?_
 rintro e w1 ⟨rfl, hC, hb⟩
 have HC := aMk hC
 have HB := aMk hb
 clear hC hb
 go_wp2_with fail
 refine (naskhref06_Get.calls k _ _ rsJ 0 c _ _ HC.out (by rw [rsJ_length]; decide) HK.out).mono ?_
 rintro e w2 ⟨rfl, hb⟩
 have HB2 := aMk (qbP HB.out hb.below)
 clear hb
 go_wp2
 go_ret
 exact ⟨rfl, HB2.out⟩
theorem info3 : (Tryz.prog.info? 3).map (fun i => (i.zero, i.size, i.bytes)) = some (some (.int .i64 0), 1, 8) := by kernel_rfl
theorem joinsR_c {v : Value} {xs : List Int} {w : World} (h : SL w v xs) (hm : xs.length ≤ 1000000) : Calls Tryz.prog 23 #[v] w fun e w' => ∃ u, e = .returned u ∧ Kd.R (Kd.int .i64) 3 w' w.heap.size (fun _ => True) u (xs.map jn) ∧ Below w.heap.size w w' := by
 have H := aMk h
 obtain ⟨A, c, rfl, _, hC⟩ := h
 have HC := aMk hC; clear hC
 go_enter Tryz.func23, Tryz.ntmps23
 go_wp2_with fail
 go_loopw [4, 3] (fun v r wr => ∃ k : Nat, v = .int .i64 k ∧ k ≤ xs.length ∧ Aside0 (Kd.R (Kd.int .i64) 3 wr w.heap.size (fun _ => True) r ((xs.take k).map jn)) ∧ Aside0 (Below w.heap.size w wr)) (fun v _ _ => xs.length - (intOf v).toNat)
 case atStart => exact ⟨0, rfl, Nat.zero_le _, ⟨Kd.R_nil _ _ _ _ _⟩, ⟨qBr _ _⟩⟩
 case round =>
  obtain ⟨k, rfl, hk, HR, HB⟩ := hrel
  by_cases hlt : k < xs.length
  ·have hltI : (k : Int) < (xs.length : Int) := by omega
   have hkI : 0 ≤ (k : Int) := by omega
   obtain ⟨ad, ea, hx⟩ := Kd.at_int (Kd.C_below HC.out HB.out) (k : Int) hkI hltI
   cases ea
   simp only [qtN] at hx
   have HS : Aside0 ((xs.take (k + 1)).map jn = (xs.take k).map jn ++ [jn (rd xs k)]) := ⟨by
    rw [qtS hlt, List.map_append, rd_get hlt]; rfl⟩
   have hl : ((xs.take k).map jn).length ≤ 1000000 := by rw [qlm, List.length_take]; omega
   generalize (xs.take k).map jn = out at HR HS hl
   go_wp2_with fail
   refine (join_c _ _).mono ?_
   generalize jn (rd xs k) = y at HS
   rintro e w2 ⟨rfl, hb⟩
   have HB2 := aMk (qbP HB.out hb)
   have HR2 := aMk (qrB HR.out hb)
   clear hb HB HR hx
   go_wp2_with (first | (at_builtin; refine Kd.R_append (Kd.int .i64) (w0 := w) w.heap.size rfl (.tmp 11) (.tmp 17) 22 3 (.int .i64 0) 8 rfl Tryz.underlying22 info3 rfl (by decide) (by omega) _ _ y [.int .i64 y] (fun _ => True) (fun _ => False) rfl rfl rfl (fun _ h => h.elim) (fun _ _ => trivial) HR2.out HB2.out HB2.out.size (by omega) ?_; intro v1 w1 hv1 hb1 hg1 hn1; have HV1 := aMk hv1; have HB1 := aMk hb1; clear hv1 hb1 hg1 hn1))
   exact ⟨⟨k + 1, by go_num, by omega, ⟨by rw [HS.out]; exact HV1.out⟩, HB1⟩, by simp [intOf]; omega⟩
  ·go_wp2
   go_ret
   refine ⟨_, rfl, ?_, HB.out⟩
   have := HR.out
   rwa [List.take_of_length_le (by omega)] at this
end CJoins
end
section
namespace KProps
open U CProps
abbrev RA := PEmbedJoins.S127
abbrev RB := PGet.S127
def conv (x : RA) : RB := ⟨x.f0, x.f1, x.f2⟩
theorem getR_conv (n c : Int) : ∀ l : List RA, UTrie.getR l n c = CJoins.getR (l.map conv) n c
 | [] => rfl
 | r :: l => by
  have ih := getR_conv n c l
  unfold UTrie.getR at ih ⊢
  rw [List.map_cons]
  show _ = (if _ then _ else _)
  by_cases h : r.f0 ≤ c ∧ c ≤ r.f1
  ·rw [List.find?_cons_of_pos (by simpa [UTrie.inR] using h)]
   simp [conv, h]
  ·rw [List.find?_cons_of_neg (by simpa [UTrie.inR] using h), ih]
   simp [conv, h]
theorem rsJ_same : CProps.rsJ.map conv = CJoins.rsJ := by kernel_rfl
theorem jn_same (c : Int) : UTrie.getR CProps.rsJ 0 c = CJoins.jn c := by
 unfold CJoins.jn
 rw [getR_conv, rsJ_same]
theorem pjoin_c {w : World} {g : Nat} (h : PropsAt w g) (c : Int) : Calls Tryz.prog 110 #[.pointer (some ⟨g, 0, none⟩), .int .i64 c] w fun e w' => e = .returned (.int .i64 (CJoins.jn c)) ∧ Below w.heap.size w w' := by
 have H := aMk h
 obtain ⟨g1, g2, hT, h1, h2⟩ := h
 have t1 : w.cell? ⟨g, 1, none⟩ = some (.pointer (some ⟨g2, 0, none⟩)) := (blk_cell hT 1).trans rfl
 have H2 := aMk h2
 clear hT h1 h2
 go_enter Tryz.func110, Tryz.ntmps110
 go_wp2_with (first | (go_at_call 176; refine (made_c H.out).mono ?_; rintro e w1 ⟨rfl, hb1⟩; have HB1 := aMk hb1; have t1 := (hb1.cell (qwL _ _ t1)).trans t1; clear hb1) | (go_at_call 177; refine (get_c (table_below H2.out HB1.out) okJ c).mono ?_; rintro e w3 ⟨rfl, hb3⟩; have HB3 : Aside0 (Below w.heap.size w w3) := ⟨qbP HB1.out hb3⟩; clear hb3))
 go_ret
 exact ⟨by rw [jn_same]; rfl, HB3.out⟩
theorem info3k : (Tryz.prog.info? 3).map (fun i => (i.zero, i.size, i.bytes)) = some (some (.int .i64 0), 1, 8) := by kernel_rfl
noncomputable def zs (xs : List Int) (i : Nat) : List Int := (xs.take i).map CJoins.jn ++ List.replicate (xs.length - i) 0
theorem zs_len (xs : List Int) {i : Nat} (h : i ≤ xs.length) : (zs xs i).length = xs.length := by simp [zs]; omega
theorem zs_zero (xs : List Int) : zs xs 0 = List.replicate xs.length 0 := by unfold zs; rw [List.take_zero, List.map_nil, List.nil_append, Nat.sub_zero]
theorem zs_set (xs : List Int) {i : Nat} (h : i < xs.length) : (zs xs i).set i (CJoins.jn xs[i]) = zs xs (i + 1) := by
 have hl : ((xs.take i).map CJoins.jn).length = i := by simp; omega
 unfold zs
 obtain ⟨k, hk⟩ : ∃ k, xs.length - i = k + 1 := ⟨xs.length - i - 1, by omega⟩
 rw [List.set_append_right _ _ (by omega), hl, Nat.sub_self, hk, List.replicate_succ, List.set_cons_zero, qtS h, List.map_append, List.append_assoc, show xs.length - (i + 1) = k by omega]
 rfl
theorem each_c {w : World} {g : Nat} (h : PropsAt w g) {v : Value} {xs : List Int} (hx : SL w v xs) (hm : xs.length ≤ 1000000) : Calls Tryz.prog 109 #[v, .func (.func 110) #[.pointer (some ⟨g, 0, none⟩)] #[]] w fun e w' => ∃ u, e = .returned u ∧ Kd.R (Kd.int .i64) 3 w' w.heap.size (fun _ => True) u (xs.map CJoins.jn) ∧ Below w.heap.size w w' := by
 have H := aMk h
 have HM := aMk hm
 obtain ⟨A, c, rfl, hc, hC⟩ := hx
 have HC := aMk hC
 clear h hm hc hC
 go_enter Tryz.func109, Tryz.ntmps109
 go_upto_region 3 with (first | ((with_reducible refine gate_dst (N := 10) rfl ?_); refine Kd.R_make (Kd.int .i64) (w0 := w) w.heap.size 3 rfl rfl 22 (.tmp 9) (.tmp 9) rfl (xs.length : Int) (by first | (go_simp; done) | (go_simp; rfl)) (by first | (go_simp; done) | (go_simp; rfl)) Tryz.underlying22 (.int .i64 0) 8 info3k rfl (by decide) (by omega) (0 : Int) (ok := fun _ => True) (okp := fun _ => False) rfl (fun _ h => h.elim) trivial (by omega) (by have := HM.out; simp only [qtN]; omega) (qBr _ _) (qlR _) ?_; intro v1 w1 hv hb hg hat; rw [qtN] at hv; obtain ⟨A1, c1, e1⟩ := Kd.R_slice hv; rw [qlr] at e1; subst e1; have HV : Aside0 (Kd.R (Kd.int .i64) 3 w1 w.heap.size (fun _ => True) (.slice A1 xs.length c1) (zs xs 0)) := ⟨by rw [zs_zero]; exact hv⟩; have HB := aMk hb; clear hv hb hg hat))
 go_loopw [13] (fun v wr => ∃ i : Nat, v = .int .i64 i ∧ i ≤ xs.length ∧ Aside0 (Kd.R (Kd.int .i64) 3 wr w.heap.size (fun _ => True) (.slice A1 xs.length c1) (zs xs i)) ∧ Aside0 (Below w.heap.size w wr)) (fun v _ => xs.length - (intOf v).toNat)
 case atStart => exact ⟨0, rfl, Nat.zero_le _, HV, HB⟩
 case round =>
  clear HV HB
  obtain ⟨i, rfl, hi, HV, HB⟩ := hrel
  by_cases hli : i < xs.length
  ·have hiI : (i : Int) < (xs.length : Int) := by omega
   have hi0 : 0 ≤ (i : Int) := by omega
   have hi9 : (i : Int) ≤ 1000000 := by have := HM.out; omega
   obtain ⟨g1, cap, eg, -, -, -⟩ := Kd.R_form HV.out (by rw [zs_len xs hi]; omega)
   rw [zs_len xs hi] at eg
   injection eg with e1 e2 e3
   subst e1
   subst e3
   obtain ⟨ad, ead, c0⟩ := Kd.at_int (Kd.C_below HC.out HB.out) (i : Int) (by omega) (by omega)
   subst ead
   rw [qtN, rd_get hli] at c0
   have HS := aMk (zs_set xs hli)
   generalize xs[i] = x at c0 HS
   have HI := aMk hli
   have HL := aMk (zs_len xs hi)
   clear hli hi
   go_wp2_with (first | (refine (pjoin_c (H.out.below HB.out) x).mono ?_; rintro e w2 ⟨rfl, hb⟩; have hv2 := qrB HV.out hb; obtain ⟨z0, z1⟩ := Kd.R_celln (0 : Int) hv2 (i : Int) (by omega) (by omega); have hp := (Kd.R_putg hv2 (i : Int) (CJoins.jn x)).1; rw [qtN] at z0 z1 hp; rw [HS.out] at hp; have HP := aMk hp; have HG2 : Aside0 (w.heap.size ≤ g1) := ⟨Kd.R_base hv2 g1 (by simp [Value.ownBlock])⟩; have HB2 : Aside0 (Below w.heap.size w w2) := ⟨qbP HB.out hb⟩; clear hb hv2 hp))
   exact ⟨⟨i + 1, by go_num, by have := HI.out; omega, HP, ⟨HB2.out.setCell (p := ⟨g1, i, none⟩) HG2.out _⟩⟩, by have := HI.out; simp [intOf]; omega⟩
  ·obtain rfl : i = xs.length := by omega
   clear hli hi
   go_wp2
   go_ret
   refine ⟨_, rfl, ?_, HB.out⟩
   have h := HV.out
   unfold zs at h
   rw [List.take_length, Nat.sub_self, List.replicate_zero, List.append_nil] at h
   exact h
theorem pjoins_c {w : World} {g : Nat} (h : PropsAt w g) {v : Value} {xs : List Int} (hx : SL w v xs) (hm : xs.length ≤ 1000000) : Calls Tryz.prog 51 #[.pointer (some ⟨g, 0, none⟩), v] w fun e w' => ∃ u, e = .returned u ∧ Kd.R (Kd.int .i64) 3 w' w.heap.size (fun _ => True) u (xs.map CJoins.jn) ∧ Below w.heap.size w w' := by
 have H := aMk h
 have HM := aMk hm
 have HX := aMk hx
 clear h hm hx
 go_enter Tryz.func51, Tryz.ntmps51
 go_wp2_with (go_at_call 109; refine (each_c H.out HX.out HM.out).mono ?_; rintro e w2 ⟨u, rfl, hr, hb⟩; have HR := aMk hr; have HB := aMk hb; clear hr hb)
 go_ret
 exact ⟨_, rfl, HR.out, HB.out⟩
end KProps
end
section
namespace KPlace
open U PKashidaStretches KRank UJoin
def rk2 (own next : Int) : Int := mn (if own > 2 then 6 else own) (if next < 3 then 6 else next)
theorem textRank_f (xs ts : List Int) (i b : Int) (h0 : 0 ≤ i) (h1 : i < xs.length) (h2 : 0 ≤ b) (h3 : b < xs.length) : kashida_text_rank.f 20 xs ts i b = some (rk2 (rankO (rd xs i)) (rankO (rd xs b))) := by
 unfold kashida_text_rank.f rk2
 rw [if_pos h0, if_pos h1, rank_f]
 simp only [qoS]
 rw [if_pos h2, if_pos h3, rank_f]
 simp only [qoS]
 by_cases h4 : rankO (rd xs i) > 2 <;> by_cases h5 : rankO (rd xs b) < 3 <;> simp only [h4, h5, if_true, if_false]
theorem textRank_c {w : World} {A B : Option Addr} {c d : Nat} {xs ts : List Int} (hx : SL w (.slice A xs.length c) xs) (ht : SL w (.slice B ts.length d) ts) (i b : Int) (h0 : 0 ≤ i) (h1 : i < xs.length) (h2 : 0 ≤ b) (h3 : b < xs.length) :
 Calls Tryz.prog 182 #[.agg #[.slice A xs.length c, .slice B ts.length d], .int .i64 i, .int .i64 b] w fun e w' => e = .returned (.int .i64 (rk2 (rankO (rd xs i)) (rankO (rd xs b)))) ∧ Below w.heap.size w w' := by
 obtain ⟨A', c', e1, hc1, hC1⟩ := hx
 obtain ⟨B', d', e2, hc2, hC2⟩ := ht
 injection e1 with e1 e3 e4
 injection e2 with e5 e6 e7
 subst e1; subst e4; subst e5; subst e7
 exact kashida_text_rank.calls 20 A c xs B d ts i b _ w hC1 hc1 hC2 hc2 (textRank_f xs ts i b h0 h1 h2 h3)
def placeB (xs ts : List Int) (i : Int) : Bool := joinedI ts i && !(decide (rd xs i = 1604) && alefB (rd xs (behindI ts i)))
def prank (xs ts : List Int) (i : Int) : Int := rk2 (rankO (rd xs i)) (rankO (rd xs (behindI ts i)))
theorem place_c {w : World} {A B : Option Addr} {c d : Nat} {xs ts : List Int} (hx : SL w (.slice A xs.length c) xs) (ht : SL w (.slice B ts.length d) ts) (hl : ts.length = xs.length) (hm : xs.length ≤ 1000000) (i : Nat) (hi : i < xs.length) :
 Calls Tryz.prog 114 #[.agg #[.slice A xs.length c, .slice B ts.length d], .int .i64 i] w fun e w' => ∃ a r : Int, e = .returned (.tuple #[.agg #[.int .i64 a, .int .i64 r], .bool (placeB xs ts i)]) ∧ (placeB xs ts i = true → a = i ∧ r = prank xs ts i) ∧ Below w.heap.size w w' := by
 have HX := aMk hx
 have HT := aMk ht
 have HM : Aside0 (ts.length ≤ 1000000) := ⟨by omega⟩
 obtain ⟨ad, cx, ea, c0⟩ := SLk.at_int hx (i : Int) (by omega) (by omega)
 injection ea with ea e2 e3
 clear e2
 subst e3
 subst ea
 rw [qtN, rd_get hi] at c0
 have hiI : (i : Int) < (xs.length : Int) := by omega
 have hi0 : 0 ≤ (i : Int) := by omega
 have HI := aMk hi
 have HL := aMk hl
 have HP0 : Aside0 (placeB xs ts i = (joinedI ts i && !(decide (xs[i] = 1604) && alefB (rd xs (behindI ts i))))) := ⟨by unfold placeB; rw [rd_get hi]⟩
 have HPR : Aside0 (prank xs ts i = rk2 (rankO (rd xs i)) (rankO (rd xs (behindI ts i)))) := ⟨rfl⟩
 have HBR : Aside0 (joinedI ts i = true → 0 ≤ behindI ts i ∧ behindI ts i < xs.length) := ⟨fun hj => by
  have h1 : 0 ≤ behindI ts i := by
   unfold joinedI at hj
   simp only [Bool.and_eq_true, decide_eq_true_eq] at hj
   exact hj.1.1
  have h2 := PureJoin.behindI_range ts i
  omega⟩
 generalize placeB xs ts i = P at HP0 ⊢
 generalize xs[i] = x at c0 HP0
 clear hx ht hl hm hi
 go_enter Tryz.func114, Tryz.ntmps114
 cases hj : joinedI ts i with
 | false =>
  have HJ := aMk hj
  rw [hj, Bool.false_and] at HP0
  obtain rfl := HP0.out
  clear hj HP0
  go_wp2_with (first | ((with_reducible refine gate_dst (N := 2) rfl ?_); refine box_event ?hg (N := 2) ?hd (cs := #[.slice (some ad) xs.length c, .slice B ts.length d]) (t := 82) ?hr ?_; (case hd => rfl); (case hg => rfl); (case hr => go_simp; done); intro g2 hg w2 hbox hb; have HX2 := aMk hbox; have HB2 := aMk hb; clear hg hbox hb) | ((with_reducible refine gate_dst (N := 4) rfl ?_); refine box_event ?hg (N := 4) ?hd (cs := #[.int .i64 0, .int .i64 0]) (t := 154) ?hr ?_; (case hd => rfl); (case hg => rfl); (case hr => go_simp; done); intro g4 hg w4 hbox hb; have HX4 := aMk hbox; have HX2 : Aside0 (w4.heap[g2]? = some (.cells #[.slice (some ad) xs.length c, .slice B ts.length d] 82 (0, 0))) := ⟨(hb.block _ (blk_lt HX2.out)).trans HX2.out⟩; have HG4 : Aside0 (w.heap.size ≤ g4) := ⟨by rw [hg]; exact HB2.out.size⟩; have HB4 : Aside0 (Below w.heap.size w w4) := ⟨qbP HB2.out hb⟩; have y0 := (blk_cell HX2.out 0).trans rfl; have y1 := (blk_cell HX2.out 1).trans rfl; have z0 := (blk_cell HX4.out 0).trans rfl; have z1 := (blk_cell HX4.out 1).trans rfl; have f0 := qbF HX4.out 0; have f1 := qbF HX4.out 1; clear hg hbox hb) | (go_at_call 179; refine (CJoin3.joined_c (SLk.below HT.out HB4.out) HM.out i).mono ?_; rintro e w5 ⟨rfl, hb⟩; rw [HJ.out]; have HX2 : Aside0 (w5.heap[g2]? = some (.cells #[.slice (some ad) xs.length c, .slice B ts.length d] 82 (0, 0))) := ⟨(hb.block _ (blk_lt HX2.out)).trans HX2.out⟩; have HX4 : Aside0 (w5.heap[g4]? = some (.cells #[.int .i64 0, .int .i64 0] 154 (0, 0))) := ⟨(hb.block _ (blk_lt HX4.out)).trans HX4.out⟩; have HB5 : Aside0 (Below w.heap.size w w5) := ⟨qbP HB4.out hb⟩; have y0 := (blk_cell HX2.out 0).trans rfl; have y1 := (blk_cell HX2.out 1).trans rfl; have z0 := (blk_cell HX4.out 0).trans rfl; have z1 := (blk_cell HX4.out 1).trans rfl; have f0 := qbF HX4.out 0; have f1 := qbF HX4.out 1; clear hb))
  refine bodyPost_ret (results_ct rfl _ _ g4 154 #[.int .i64 0, .int .i64 0] (0, 0) _ rfl (blk_put (cs := #[.int .i64 0, .int .i64 0]) (blk_put (cs := #[.int .i64 0, .int .i64 0]) HX4.out 0 _ rfl) 1 _ rfl) Tryz.underlying154 rfl (by kernel_rfl)) rfl ?_
  exact ⟨_, _, rfl, (fun h => by cases h), (HB5.out.setCell (p := ⟨g4, 0, none⟩) HG4.out _).setCell (p := ⟨g4, 1, none⟩) HG4.out _⟩
 | true =>
  have HJ := aMk hj
  obtain ⟨hb0, hb1⟩ := HBR.out hj
  obtain ⟨adb, cb', eb, cb⟩ := SLk.at_int HX.out (behindI ts i) hb0 hb1
  injection eb with eb e2 e3
  obtain rfl := qoI eb
  clear e2 e3
  rw [hj, Bool.true_and] at HP0
  obtain ⟨b, hb⟩ : ∃ b, b = behindI ts i := ⟨_, rfl⟩
  have HBB : Aside0 (behindI ts i = b) := ⟨hb.symm⟩
  have HRK := HPR
  rw [← hb] at cb hb0 hb1 HP0 HRK
  have HXB : Aside0 (rd xs b = rd xs b) := ⟨rfl⟩
  obtain ⟨xb, hxb⟩ : ∃ xb, xb = rd xs b := ⟨_, rfl⟩
  rw [← hxb] at cb HP0
  clear hj hb hxb eb HBR HPR
  by_cases hx4 : x = 1604
  ·cases ha : alefB xb with
   | true =>
    have HAL := aMk ha
    rw [ha] at HP0
    obtain rfl : P = false := by rw [HP0.out, qdT hx4]; rfl
    clear ha HP0
    subst hx4
    go_wp2_with (first | ((with_reducible refine gate_dst (N := 2) rfl ?_); refine box_event ?hg (N := 2) ?hd (cs := #[.slice (some ad) xs.length c, .slice B ts.length d]) (t := 82) ?hr ?_; (case hd => rfl); (case hg => rfl); (case hr => go_simp; done); intro g2 hg w2 hbox hb; have HX2 := aMk hbox; have HB2 := aMk hb; clear hg hbox hb) | ((with_reducible refine gate_dst (N := 4) rfl ?_); refine box_event ?hg (N := 4) ?hd (cs := #[.int .i64 0, .int .i64 0]) (t := 154) ?hr ?_; (case hd => rfl); (case hg => rfl); (case hr => go_simp; done); intro g4 hg w4 hbox hb; have HX4 := aMk hbox; have HX2 : Aside0 (w4.heap[g2]? = some (.cells #[.slice (some ad) xs.length c, .slice B ts.length d] 82 (0, 0))) := ⟨(hb.block _ (blk_lt HX2.out)).trans HX2.out⟩; have HG4 : Aside0 (w.heap.size ≤ g4) := ⟨by rw [hg]; exact HB2.out.size⟩; have HB4 : Aside0 (Below w.heap.size w w4) := ⟨qbP HB2.out hb⟩; have y0 := (blk_cell HX2.out 0).trans rfl; have y1 := (blk_cell HX2.out 1).trans rfl; have z0 := (blk_cell HX4.out 0).trans rfl; have z1 := (blk_cell HX4.out 1).trans rfl; have f0 := qbF HX4.out 0; have f1 := qbF HX4.out 1; clear hg hbox hb) | (go_at_call 179; refine (CJoin3.joined_c (SLk.below HT.out HB4.out) HM.out i).mono ?_; rintro e w5 ⟨rfl, hb⟩; rw [HJ.out]; have HX2 : Aside0 (w5.heap[g2]? = some (.cells #[.slice (some ad) xs.length c, .slice B ts.length d] 82 (0, 0))) := ⟨(hb.block _ (blk_lt HX2.out)).trans HX2.out⟩; have HX4 : Aside0 (w5.heap[g4]? = some (.cells #[.int .i64 0, .int .i64 0] 154 (0, 0))) := ⟨(hb.block _ (blk_lt HX4.out)).trans HX4.out⟩; have HB5 : Aside0 (Below w.heap.size w w5) := ⟨qbP HB4.out hb⟩; have y0 := (blk_cell HX2.out 0).trans rfl; have y1 := (blk_cell HX2.out 1).trans rfl; have z0 := (blk_cell HX4.out 0).trans rfl; have z1 := (blk_cell HX4.out 1).trans rfl; have f0 := qbF HX4.out 0; have f1 := qbF HX4.out 1; clear hb) | (go_at_call 180; refine (CJoin3.behind_c (SLk.below HT.out HB5.out) HM.out i).mono ?_; rintro e w6 ⟨rfl, hb⟩; rw [HBB.out]; have HX2 : Aside0 (w6.heap[g2]? = some (.cells #[.slice (some ad) xs.length c, .slice B ts.length d] 82 (0, 0))) := ⟨(hb.block _ (blk_lt HX2.out)).trans HX2.out⟩; have HX4 : Aside0 (w6.heap[g4]? = some (.cells #[.int .i64 0, .int .i64 0] 154 (0, 0))) := ⟨(hb.block _ (blk_lt HX4.out)).trans HX4.out⟩; have HB6 : Aside0 (Below w.heap.size w w6) := ⟨qbP HB5.out hb⟩; have y0 := (blk_cell HX2.out 0).trans rfl; have y1 := (blk_cell HX2.out 1).trans rfl; have z0 := (blk_cell HX4.out 0).trans rfl; have z1 := (blk_cell HX4.out 1).trans rfl; have f0 := qbF HX4.out 0; have f1 := qbF HX4.out 1; clear hb; have c0 := (HB6.out.cell (qwL _ _ c0)).trans c0; have cb := (HB6.out.cell (qwL _ _ cb)).trans cb) | (go_at_call 181; refine (alef_c xb _).mono ?_; rintro e w7 ⟨rfl, hb⟩; rw [HAL.out]; have HX2 : Aside0 (w7.heap[g2]? = some (.cells #[.slice (some ad) xs.length c, .slice B ts.length d] 82 (0, 0))) := ⟨(hb.block _ (blk_lt HX2.out)).trans HX2.out⟩; have HX4 : Aside0 (w7.heap[g4]? = some (.cells #[.int .i64 0, .int .i64 0] 154 (0, 0))) := ⟨(hb.block _ (blk_lt HX4.out)).trans HX4.out⟩; have HB7 : Aside0 (Below w.heap.size w w7) := ⟨qbP HB6.out hb⟩; have y0 := (blk_cell HX2.out 0).trans rfl; have y1 := (blk_cell HX2.out 1).trans rfl; have z0 := (blk_cell HX4.out 0).trans rfl; have z1 := (blk_cell HX4.out 1).trans rfl; have f0 := qbF HX4.out 0; have f1 := qbF HX4.out 1; clear hb))
    refine bodyPost_ret (results_ct rfl _ _ g4 154 #[.int .i64 0, .int .i64 0] (0, 0) _ rfl (blk_put (cs := #[.int .i64 0, .int .i64 0]) (blk_put (cs := #[.int .i64 0, .int .i64 0]) HX4.out 0 _ rfl) 1 _ rfl) Tryz.underlying154 rfl (by kernel_rfl)) rfl ?_
    exact ⟨_, _, rfl, (fun h => by cases h), (HB7.out.setCell (p := ⟨g4, 0, none⟩) HG4.out _).setCell (p := ⟨g4, 1, none⟩) HG4.out _⟩
   | false =>
    have HAL := aMk ha
    rw [ha] at HP0
    obtain rfl : P = true := by rw [HP0.out, Bool.and_false]; rfl
    clear ha HP0
    subst hx4
    go_wp2_with (first | ((with_reducible refine gate_dst (N := 2) rfl ?_); refine box_event ?hg (N := 2) ?hd (cs := #[.slice (some ad) xs.length c, .slice B ts.length d]) (t := 82) ?hr ?_; (case hd => rfl); (case hg => rfl); (case hr => go_simp; done); intro g2 hg w2 hbox hb; have HX2 := aMk hbox; have HB2 := aMk hb; clear hg hbox hb) | ((with_reducible refine gate_dst (N := 4) rfl ?_); refine box_event ?hg (N := 4) ?hd (cs := #[.int .i64 0, .int .i64 0]) (t := 154) ?hr ?_; (case hd => rfl); (case hg => rfl); (case hr => go_simp; done); intro g4 hg w4 hbox hb; have HX4 := aMk hbox; have HX2 : Aside0 (w4.heap[g2]? = some (.cells #[.slice (some ad) xs.length c, .slice B ts.length d] 82 (0, 0))) := ⟨(hb.block _ (blk_lt HX2.out)).trans HX2.out⟩; have HG4 : Aside0 (w.heap.size ≤ g4) := ⟨by rw [hg]; exact HB2.out.size⟩; have HB4 : Aside0 (Below w.heap.size w w4) := ⟨qbP HB2.out hb⟩; have y0 := (blk_cell HX2.out 0).trans rfl; have y1 := (blk_cell HX2.out 1).trans rfl; have z0 := (blk_cell HX4.out 0).trans rfl; have z1 := (blk_cell HX4.out 1).trans rfl; have f0 := qbF HX4.out 0; have f1 := qbF HX4.out 1; clear hg hbox hb) | (go_at_call 179; refine (CJoin3.joined_c (SLk.below HT.out HB4.out) HM.out i).mono ?_; rintro e w5 ⟨rfl, hb⟩; rw [HJ.out]; have HX2 : Aside0 (w5.heap[g2]? = some (.cells #[.slice (some ad) xs.length c, .slice B ts.length d] 82 (0, 0))) := ⟨(hb.block _ (blk_lt HX2.out)).trans HX2.out⟩; have HX4 : Aside0 (w5.heap[g4]? = some (.cells #[.int .i64 0, .int .i64 0] 154 (0, 0))) := ⟨(hb.block _ (blk_lt HX4.out)).trans HX4.out⟩; have HB5 : Aside0 (Below w.heap.size w w5) := ⟨qbP HB4.out hb⟩; have y0 := (blk_cell HX2.out 0).trans rfl; have y1 := (blk_cell HX2.out 1).trans rfl; have z0 := (blk_cell HX4.out 0).trans rfl; have z1 := (blk_cell HX4.out 1).trans rfl; have f0 := qbF HX4.out 0; have f1 := qbF HX4.out 1; clear hb) | (go_at_call 180; refine (CJoin3.behind_c (SLk.below HT.out HB5.out) HM.out i).mono ?_; rintro e w6 ⟨rfl, hb⟩; rw [HBB.out]; have HX2 : Aside0 (w6.heap[g2]? = some (.cells #[.slice (some ad) xs.length c, .slice B ts.length d] 82 (0, 0))) := ⟨(hb.block _ (blk_lt HX2.out)).trans HX2.out⟩; have HX4 : Aside0 (w6.heap[g4]? = some (.cells #[.int .i64 0, .int .i64 0] 154 (0, 0))) := ⟨(hb.block _ (blk_lt HX4.out)).trans HX4.out⟩; have HB6 : Aside0 (Below w.heap.size w w6) := ⟨qbP HB5.out hb⟩; have y0 := (blk_cell HX2.out 0).trans rfl; have y1 := (blk_cell HX2.out 1).trans rfl; have z0 := (blk_cell HX4.out 0).trans rfl; have z1 := (blk_cell HX4.out 1).trans rfl; have f0 := qbF HX4.out 0; have f1 := qbF HX4.out 1; clear hb; have c0 := (HB6.out.cell (qwL _ _ c0)).trans c0; have cb := (HB6.out.cell (qwL _ _ cb)).trans cb) | (go_at_call 181; refine (alef_c xb _).mono ?_; rintro e w7 ⟨rfl, hb⟩; rw [HAL.out]; have HX2 : Aside0 (w7.heap[g2]? = some (.cells #[.slice (some ad) xs.length c, .slice B ts.length d] 82 (0, 0))) := ⟨(hb.block _ (blk_lt HX2.out)).trans HX2.out⟩; have HX4 : Aside0 (w7.heap[g4]? = some (.cells #[.int .i64 0, .int .i64 0] 154 (0, 0))) := ⟨(hb.block _ (blk_lt HX4.out)).trans HX4.out⟩; have HB7 : Aside0 (Below w.heap.size w w7) := ⟨qbP HB6.out hb⟩; have y0 := (blk_cell HX2.out 0).trans rfl; have y1 := (blk_cell HX2.out 1).trans rfl; have z0 := (blk_cell HX4.out 0).trans rfl; have z1 := (blk_cell HX4.out 1).trans rfl; have f0 := qbF HX4.out 0; have f1 := qbF HX4.out 1; clear hb) | (go_at_call 182; refine (textRank_c (ts := ts) (SLk.below HX.out HB7.out) (SLk.below HT.out HB7.out) i b (by omega) (by omega) (by omega) (by omega)).mono ?_; rintro e w8 ⟨rfl, hb⟩; rw [← HRK.out]; have HX2 : Aside0 (w8.heap[g2]? = some (.cells #[.slice (some ad) xs.length c, .slice B ts.length d] 82 (0, 0))) := ⟨(hb.block _ (blk_lt HX2.out)).trans HX2.out⟩; have HX4 : Aside0 (w8.heap[g4]? = some (.cells #[.int .i64 0, .int .i64 0] 154 (0, 0))) := ⟨(hb.block _ (blk_lt HX4.out)).trans HX4.out⟩; have HB8 : Aside0 (Below w.heap.size w w8) := ⟨qbP HB7.out hb⟩; have y0 := (blk_cell HX2.out 0).trans rfl; have y1 := (blk_cell HX2.out 1).trans rfl; have z0 := (blk_cell HX4.out 0).trans rfl; have z1 := (blk_cell HX4.out 1).trans rfl; have f0 := qbF HX4.out 0; have f1 := qbF HX4.out 1; clear hb))
    refine bodyPost_ret (results_ct rfl _ _ g4 154 #[.int .i64 i, .int .i64 (prank xs ts i)] (0, 0) _ rfl (blk_put (cs := #[.int .i64 i, .int .i64 0]) (blk_put (cs := #[.int .i64 0, .int .i64 0]) HX4.out 0 _ rfl) 1 _ rfl) Tryz.underlying154 rfl (by kernel_rfl)) rfl ?_
    exact ⟨_, _, rfl, ⟨rfl, rfl⟩, (HB8.out.setCell (p := ⟨g4, 0, none⟩) HG4.out _).setCell (p := ⟨g4, 1, none⟩) HG4.out _⟩
  ·obtain rfl : P = true := by rw [HP0.out, qdF hx4]; rfl
   clear HP0
   go_wp2_with (first | ((with_reducible refine gate_dst (N := 2) rfl ?_); refine box_event ?hg (N := 2) ?hd (cs := #[.slice (some ad) xs.length c, .slice B ts.length d]) (t := 82) ?hr ?_; (case hd => rfl); (case hg => rfl); (case hr => go_simp; done); intro g2 hg w2 hbox hb; have HX2 := aMk hbox; have HB2 := aMk hb; clear hg hbox hb) | ((with_reducible refine gate_dst (N := 4) rfl ?_); refine box_event ?hg (N := 4) ?hd (cs := #[.int .i64 0, .int .i64 0]) (t := 154) ?hr ?_; (case hd => rfl); (case hg => rfl); (case hr => go_simp; done); intro g4 hg w4 hbox hb; have HX4 := aMk hbox; have HX2 : Aside0 (w4.heap[g2]? = some (.cells #[.slice (some ad) xs.length c, .slice B ts.length d] 82 (0, 0))) := ⟨(hb.block _ (blk_lt HX2.out)).trans HX2.out⟩; have HG4 : Aside0 (w.heap.size ≤ g4) := ⟨by rw [hg]; exact HB2.out.size⟩; have HB4 : Aside0 (Below w.heap.size w w4) := ⟨qbP HB2.out hb⟩; have y0 := (blk_cell HX2.out 0).trans rfl; have y1 := (blk_cell HX2.out 1).trans rfl; have z0 := (blk_cell HX4.out 0).trans rfl; have z1 := (blk_cell HX4.out 1).trans rfl; have f0 := qbF HX4.out 0; have f1 := qbF HX4.out 1; clear hg hbox hb) | (go_at_call 179; refine (CJoin3.joined_c (SLk.below HT.out HB4.out) HM.out i).mono ?_; rintro e w5 ⟨rfl, hb⟩; rw [HJ.out]; have HX2 : Aside0 (w5.heap[g2]? = some (.cells #[.slice (some ad) xs.length c, .slice B ts.length d] 82 (0, 0))) := ⟨(hb.block _ (blk_lt HX2.out)).trans HX2.out⟩; have HX4 : Aside0 (w5.heap[g4]? = some (.cells #[.int .i64 0, .int .i64 0] 154 (0, 0))) := ⟨(hb.block _ (blk_lt HX4.out)).trans HX4.out⟩; have HB5 : Aside0 (Below w.heap.size w w5) := ⟨qbP HB4.out hb⟩; have y0 := (blk_cell HX2.out 0).trans rfl; have y1 := (blk_cell HX2.out 1).trans rfl; have z0 := (blk_cell HX4.out 0).trans rfl; have z1 := (blk_cell HX4.out 1).trans rfl; have f0 := qbF HX4.out 0; have f1 := qbF HX4.out 1; clear hb) | (go_at_call 180; refine (CJoin3.behind_c (SLk.below HT.out HB5.out) HM.out i).mono ?_; rintro e w6 ⟨rfl, hb⟩; rw [HBB.out]; have HX2 : Aside0 (w6.heap[g2]? = some (.cells #[.slice (some ad) xs.length c, .slice B ts.length d] 82 (0, 0))) := ⟨(hb.block _ (blk_lt HX2.out)).trans HX2.out⟩; have HX4 : Aside0 (w6.heap[g4]? = some (.cells #[.int .i64 0, .int .i64 0] 154 (0, 0))) := ⟨(hb.block _ (blk_lt HX4.out)).trans HX4.out⟩; have HB6 : Aside0 (Below w.heap.size w w6) := ⟨qbP HB5.out hb⟩; have y0 := (blk_cell HX2.out 0).trans rfl; have y1 := (blk_cell HX2.out 1).trans rfl; have z0 := (blk_cell HX4.out 0).trans rfl; have z1 := (blk_cell HX4.out 1).trans rfl; have f0 := qbF HX4.out 0; have f1 := qbF HX4.out 1; clear hb; have c0 := (HB6.out.cell (qwL _ _ c0)).trans c0; have cb := (HB6.out.cell (qwL _ _ cb)).trans cb) | (go_at_call 182; refine (textRank_c (ts := ts) (SLk.below HX.out HB6.out) (SLk.below HT.out HB6.out) i b (by omega) (by omega) (by omega) (by omega)).mono ?_; rintro e w8 ⟨rfl, hb⟩; rw [← HRK.out]; have HX2 : Aside0 (w8.heap[g2]? = some (.cells #[.slice (some ad) xs.length c, .slice B ts.length d] 82 (0, 0))) := ⟨(hb.block _ (blk_lt HX2.out)).trans HX2.out⟩; have HX4 : Aside0 (w8.heap[g4]? = some (.cells #[.int .i64 0, .int .i64 0] 154 (0, 0))) := ⟨(hb.block _ (blk_lt HX4.out)).trans HX4.out⟩; have HB8 : Aside0 (Below w.heap.size w w8) := ⟨qbP HB6.out hb⟩; have y0 := (blk_cell HX2.out 0).trans rfl; have y1 := (blk_cell HX2.out 1).trans rfl; have z0 := (blk_cell HX4.out 0).trans rfl; have z1 := (blk_cell HX4.out 1).trans rfl; have f0 := qbF HX4.out 0; have f1 := qbF HX4.out 1; clear hb))
   refine bodyPost_ret (results_ct rfl _ _ g4 154 #[.int .i64 i, .int .i64 (prank xs ts i)] (0, 0) _ rfl (blk_put (cs := #[.int .i64 i, .int .i64 0]) (blk_put (cs := #[.int .i64 0, .int .i64 0]) HX4.out 0 _ rfl) 1 _ rfl) Tryz.underlying154 rfl (by kernel_rfl)) rfl ?_
   exact ⟨_, _, rfl, ⟨rfl, rfl⟩, (HB8.out.setCell (p := ⟨g4, 0, none⟩) HG4.out _).setCell (p := ⟨g4, 1, none⟩) HG4.out _⟩
end KPlace
end
section
namespace CFin
open U PClusterFinest UFinest UFinEv
theorem info33 : (Tryz.prog.info? 34).map (fun i => (i.zero, i.size, i.bytes)) = some (some (.agg #[(.int .i64 0), (.int .i64 0)]), 2, 16) := by kernel_rfl
abbrev cells33 (p : S33) : Obj := .cells #[.int .i64 p.f0, .int .i64 p.f1] 34 (0, 0)
theorem one33 {W : World} {b : Nat} {p : S33} (h : W.heap[b]? = some (cells33 p)) : Kd.C k33 W (some ⟨b, 0, none⟩) 1 [p] := by
 refine ⟨rfl, by simp, fun hn => ⟨_, rfl, fun j x hj => ?_⟩⟩
 obtain ⟨hl, hx⟩ := List.getElem?_eq_some_iff.1 hj
 obtain rfl : j = 0 := by simpa using hl
 obtain rfl : p = x := by simpa using hx
 refine ⟨_, rfl, k33_mk W p, fun i u hu => ?_⟩
 have ea : (⟨b, 0, none⟩ : Addr).add (0 * k33.sz + i) = ⟨b, i, none⟩ := by rw [add_plain, Nat.zero_mul, Nat.zero_add]
 rw [ea, blk_cell h i]
 match i, hu with
 | 0, hu => exact hu
 | 1, hu => exact hu
structure PR (W0 W : World) (base : Nat) (G : Nat → Prop) (p q : S33) (v1 : Value) (xs : List S33) (v2 : Value) (ys : List S33) (c1 c2 : Option Nat) : Prop where
 r1 : Kd.R k33 34 W base (fun k => some k = v1.ownBlock) v1 xs
 r2 : Kd.R k33 34 W base (fun k => some k = v2.ownBlock) v2 ys
 ne : ∀ k, v1.ownBlock = some k → v2.ownBlock ≠ some k
 sz : W0.heap.size ≤ W.heap.size
 lt : ∀ k, G k → k < W0.heap.size
 keep : ∀ k, G k → W.heap[k]? = W0.heap[k]?
 n1 : ∀ k, G k → v1.ownBlock ≠ some k
 n2 : ∀ k, G k → v2.ownBlock ≠ some k
 b1 : ∀ b, c1 = some b → W.heap[b]? = some (cells33 p) ∧ v1.ownBlock ≠ some b ∧ v2.ownBlock ≠ some b
 b2 : ∀ b, c2 = some b → W.heap[b]? = some (cells33 q) ∧ v1.ownBlock ≠ some b ∧ v2.ownBlock ≠ some b
theorem PR.symm {W0 W : World} {base : Nat} {G : Nat → Prop} {p q : S33} {v1 v2 : Value} {xs ys : List S33} {c1 c2 : Option Nat} (h : PR W0 W base G p q v1 xs v2 ys c1 c2) : PR W0 W base G q p v2 ys v1 xs c2 c1 :=
 ⟨h.r2, h.r1, fun k h1 h2 => h.ne k h2 h1, h.sz, h.lt, h.keep, h.n2, h.n1, fun b hb => ⟨(h.b2 b hb).1, (h.b2 b hb).2.2, (h.b2 b hb).2.1⟩, fun b hb => ⟨(h.b1 b hb).1, (h.b1 b hb).2.2, (h.b1 b hb).2.1⟩⟩
theorem PR.drew {W0 W : World} {base : Nat} {G : Nat → Prop} {p q : S33} {v1 v2 : Value} {xs ys : List S33} {c1 c2 : Option Nat} (h : PR W0 W base G p q v1 xs v2 ys c1 c2) : PR W0 W.drew base G p q v1 xs v2 ys c1 c2 :=
 ⟨qrD h.r1, qrD h.r2, h.ne, h.sz, h.lt, h.keep, h.n1, h.n2, h.b1, h.b2⟩
theorem PR.build {W0 W : World} {base : Nat} {G : Nat → Prop} {p q : S33} {v1 v2 : Value} {xs ys : List S33} {c2 : Option Nat} (h : PR W0 W base G p q v1 xs v2 ys none c2) : PR W0 (W.alloc (cells33 p)) base G p q v1 xs v2 ys (some W.heap.size) c2 := by
 have hg := World.grownBy_alloc W (cells33 p) none
 have hold : ∀ k, k < W.heap.size → (W.alloc (cells33 p)).heap[k]? = W.heap[k]? := fun k hk => hg.block k hk (by simp)
 refine ⟨qrA h.r1 _, qrA h.r2 _, h.ne, qlT h.sz hg.size, h.lt, fun k hk => (hold k (Nat.lt_of_lt_of_le (h.lt k hk) h.sz)).trans (h.keep k hk), h.n1, h.n2, fun b hb => ?_, fun b hb => ?_⟩
 ·obtain rfl := qoI hb
  exact ⟨(MapKept.heap_alloc W _).1, fun e => by have := Kd.R_lt h.r1 _ e; omega, fun e => by have := Kd.R_lt h.r2 _ e; omega⟩
 ·obtain ⟨h1, h2⟩ := h.b2 b hb
  exact ⟨(hold b (blk_lt h1)).trans h1, h2⟩
theorem PR.append {W0 w1 W : World} {base : Nat} {G : Nat → Prop} {p q : S33} {v1 v2 v : Value} {xs ys : List S33} {c1 c2 : Option Nat} (h : PR W0 W base G p q v1 xs v2 ys c1 c2)
 (hr : Kd.R k33 34 w1 base (fun _ => True) v (xs ++ [p])) (hg : W.grownBy w1 v1.ownBlock) (hat : v.ownBlock = v1.ownBlock ∨ ∃ b, v.ownBlock = some b ∧ W.heap.size ≤ b) : PR W0 w1 base G p q v (xs ++ [p]) v2 ys none c2 := by
 have hv : ∀ k, k < W.heap.size → v1.ownBlock ≠ some k → v.ownBlock ≠ some k := fun k hk hne e => by
  rcases hat with h' | ⟨b, hb, hb2⟩
  ·exact hne (h'.symm.trans e)
  ·rw [hb] at e; have := qoI e; omega
 refine ⟨qrM (Kd.R_tight rfl hr) (fun _ h => h), Kd.R_grown h.r2 hg (fun k hk e => h.ne k e.symm hk.symm), fun k h1 h2 => hv k (Kd.R_lt h.r2 k h2) (fun e => h.ne k e h2) h1, qlT h.sz hg.size, h.lt, fun k hk => (hg.block k (Nat.lt_of_lt_of_le (h.lt k hk) h.sz) (fun e => h.n1 k hk e.symm)).trans (h.keep k hk), fun k hk => hv k (Nat.lt_of_lt_of_le (h.lt k hk) h.sz) (h.n1 k hk), h.n2, fun b hb => (by cases hb), fun b hb => ?_⟩
 obtain ⟨h1, h2, h3⟩ := h.b2 b hb
 exact ⟨(hg.block b (blk_lt h1) (fun e => h2 e.symm)).trans h1, hv b (blk_lt h1) h2, h3⟩
theorem PR.start {W : World} {base : Nat} {G : Nat → Prop} {p q : S33} {v1 v2 : Value} {xs ys : List S33} (h1 : Kd.R k33 34 W base (fun k => some k = v1.ownBlock) v1 xs) (h2 : Kd.R k33 34 W base (fun k => some k = v2.ownBlock) v2 ys) (hne : ∀ k, v1.ownBlock = some k → v2.ownBlock ≠ some k)
 (hlt : ∀ k, G k → k < W.heap.size) (n1 : ∀ k, G k → v1.ownBlock ≠ some k) (n2 : ∀ k, G k → v2.ownBlock ≠ some k) : PR W W base G p q v1 xs v2 ys none none :=
 ⟨h1, h2, hne, qlR _, hlt, fun _ _ => rfl, n1, n2, fun b hb => (by cases hb), fun b hb => (by cases hb)⟩
theorem made33 {W : World} {base : Nat} (n : Nat) (hn : n ≤ 1000000) (hb : base ≤ W.heap.size) : ∃ w', (Instr.makeSlice 98 (.int .i64 0) (.int .i64 (n : Int))).run Tryz.prog W = .ok (.slice (some ⟨W.heap.size, 0, none⟩) 0 n) w' ∧ Kd.R k33 34 w' base (fun k => k = W.heap.size) (.slice (some ⟨W.heap.size, 0, none⟩) 0 n) [] ∧ W.grownBy w' none := by
 obtain ⟨i0, hi, hzz⟩ := Option.map_eq_some_iff.1 info33
 simp only [Prod.mk.injEq] at hzz
 obtain ⟨hz0, hz1, hz2⟩ := hzz
 obtain ⟨w', h1, h2, h3⟩ := run_make_own (P := Tryz.prog) W base 98 34 i0 _ 2 Tryz.underlying98 hi hz0 hz1 .i64 .i64 n (by rw [hz2]; omega) (by unfold maxLen; omega) hb
 exact ⟨w', h1, ⟨fun k hk => by simpa [Value.ownBlock] using hk.symm, [], h2, Reps.none _ _⟩, h3⟩
end CFin
namespace CFin
open U PClusterFinest UFinest UFinEv
theorem sides_c {w : World} {v : Value} {l : List S45} (h : SLk k45 w v l) (hl : l.length ≤ 1000000) :
 Calls Tryz.prog 88 #[v] w fun e w' => ∃ u1 u2, e = .returned (.tuple #[u1, u2]) ∧ Kd.R k33 34 w' w.heap.size (fun k => some k = u1.ownBlock) u1 (l.map (·.f0)) ∧ Kd.R k33 34 w' w.heap.size (fun k => some k = u2.ownBlock) u2 (l.map (·.f1)) ∧ (∀ k, u1.ownBlock = some k → u2.ownBlock ≠ some k) ∧ Below w.heap.size w w' := by
 obtain ⟨A, c, rfl, hcc, hC⟩ := h
 have HC := aMk hC
 have HL := aMk hl
 clear hC hcc
 go_enter Tryz.func88, Tryz.ntmps88
 go_wp2_with fail
 refine start_ (n := 8) (S := (fun W => True)) (ds := []) #[false, false, false, false, false, false, false, false] (by kernel_rfl) (by kernel_rfl) (by rfl) trivial (fun hS0 => ?_)
 refine pure_ (i := 0) (N := (some 8)) (v := ?_) (a' := ?_) #[true, false, false, false, false, false, false, false] rfl rfl (by kernel_rfl) (fun _ _ _ h => h) (Or.inl ⟨by rfl, ?_⟩) ?_ ?_
 rotate_left
 ·intro w'
  go_simp
  with_reducible rfl
 rotate_left
 ·simp only [Act.put, sqA, sq0, sq1]
  rfl
 refine pure_ (i := 1) (N := (some 9)) (v := ?_) (a' := ?_) #[true, true, false, false, false, false, false, false] rfl rfl (by kernel_rfl) (fun _ _ _ h => h) (Or.inl ⟨by rfl, ?_⟩) ?_ ?_
 rotate_left
 ·intro w'
  go_simp
  with_reducible rfl
 rotate_left
 ·simp only [Act.put, sqA, sq0, sq1]
  rfl
 refine pure_ (i := 3) (N := (some 11)) (v := ?_) (a' := ?_) #[true, true, false, true, false, false, false, false] rfl rfl (by kernel_rfl) (fun _ _ _ h => h) (Or.inl ⟨by rfl, ?_⟩) ?_ ?_
 rotate_left
 ·intro w'
  go_simp
  with_reducible rfl
 rotate_left
 ·simp only [Act.put, sqA, sq0, sq1]
  rfl
 refine pure_ (i := 4) (N := (some 12)) (v := ?_) (a' := ?_) #[true, true, false, true, true, false, false, false] rfl rfl (by kernel_rfl) (fun _ _ _ h => h) (Or.inl ⟨by rfl, ?_⟩) ?_ ?_
 rotate_left
 ·intro w'
  go_simp
  with_reducible rfl
 rotate_left
 ·simp only [Act.put, sqA, sq0, sq1]
  rfl
 clear hS0
 refine join_ (σ := Nat × Nat) 1 #[true, true, true, true, true, true, true, false] (fun s => [(10, .slice (some ⟨s.1, 0, none⟩) 0 l.length), (13, .slice (some ⟨s.2, 0, none⟩) 0 l.length), (4, .slice (some ⟨s.1, 0, none⟩) 0 l.length)]) (fun s w' => Below w.heap.size w w' ∧ Kd.R k33 34 w' w.heap.size (fun k => k = s.1) (.slice (some ⟨s.1, 0, none⟩) 0 l.length) [] ∧ Kd.R k33 34 w' w.heap.size (fun k => k = s.2) (.slice (some ⟨s.2, 0, none⟩) 0 l.length) [] ∧ s.1 ≠ s.2) ?_ (fun hcont => ?_)
 rotate_left
 ·refine two_ (i := 2) (j := 5) (Ni := some 10) (Nj := some 13) #[true, true, true, true, true, false, false, false] #[true, true, false, true, true, true, false, false] rfl rfl rfl rfl (by kernel_rfl) (by decide) (by decide) (fun K hK => ?_) (fun K hK => ?_)
  ·obtain ⟨wA, hr1, hR1, hg1⟩ := made33 (W := w.drew) (base := w.heap.size) l.length HL.out (qlR _)
   refine value_ (w1 := wA) (v := .slice (some ⟨w.drew.heap.size, 0, none⟩) 0 l.length) (by rfl) rfl (by unfold execOp; simp [Act.eval, hr1]) ?_
   change K (Act.put _ (some 10) _) _
   refine hK.out _ _ trivial (fun hS0 => ?_)
   clear hK
   refine norm_ (a' := ?_) ?_ ?_
   rotate_left
   ·simp only [Act.put, sqA, sq0, sq1]
    rfl
   refine pure_ (i := 6) (N := (some 4)) (v := ?_) (a' := ?_) #[true, true, true, true, true, false, true, false] rfl rfl (by kernel_rfl) (fun _ _ _ h => h) (Or.inl ⟨by rfl, ?_⟩) ?_ ?_
   rotate_left
   ·intro w'
    go_simp
    with_reducible rfl
   rotate_left
   ·simp only [Act.put, sqA, sq0, sq1]
    rfl
   clear hS0
   refine one_ (i := 5) (N := (some 13)) #[true, true, true, true, true, true, true, false] rfl rfl (by kernel_rfl) (by decide) (fun K hK => ?_)
   obtain ⟨wB, hr2, hR2, hg2⟩ := made33 (W := wA) (base := w.heap.size) l.length HL.out (qlT (qlR _) hg1.size)
   refine value_ (w1 := wB) (v := .slice (some ⟨wA.heap.size, 0, none⟩) 0 l.length) (by rfl) rfl (by unfold execOp; simp [Act.eval, hr2]) ?_
   change K (Act.put _ (some 13) _) _
   refine hK.out _ _ trivial (fun hS0 => ?_)
   clear hK
   have hR1' := Kd.R_grown hR1 hg2 (fun k hk e => by cases e)
   have hlt : w.drew.heap.size < wA.heap.size := Kd.R_lt hR1 w.drew.heap.size (by simp [Value.ownBlock])
   have hbw : Below w.heap.size w wB := (below_drew (qBr _ _)).grown (qgT hg1 hg2) (qlR _) (fun j hj => by cases hj)
   exact hcont (_, _) wB ⟨hbw, hR1', hR2, fun e => by have : w.drew.heap.size = wA.heap.size := e; omega⟩
  ·obtain ⟨wA, hr1, hR1, hg1⟩ := made33 (W := w.drew) (base := w.heap.size) l.length HL.out (qlR _)
   refine value_ (w1 := wA) (v := .slice (some ⟨w.drew.heap.size, 0, none⟩) 0 l.length) (by rfl) rfl (by unfold execOp; simp [Act.eval, hr1]) ?_
   change K (Act.put _ (some 13) _) _
   refine hK.out _ _ trivial (fun hS0 => ?_)
   clear hK
   refine norm_ (a' := ?_) ?_ ?_
   rotate_left
   ·simp only [Act.put, sqA, sq0, sq1]
    rfl
   clear hS0
   refine one_ (i := 2) (N := (some 10)) #[true, true, true, true, true, true, false, false] rfl rfl (by kernel_rfl) (by decide) (fun K hK => ?_)
   obtain ⟨wB, hr2, hR2, hg2⟩ := made33 (W := wA) (base := w.heap.size) l.length HL.out (qlT (qlR _) hg1.size)
   refine value_ (w1 := wB) (v := .slice (some ⟨wA.heap.size, 0, none⟩) 0 l.length) (by rfl) rfl (by unfold execOp; simp [Act.eval, hr2]) ?_
   change K (Act.put _ (some 10) _) _
   refine hK.out _ _ trivial (fun hS0 => ?_)
   clear hK
   refine norm_ (a' := ?_) ?_ ?_
   rotate_left
   ·simp only [Act.put, sqA, sq0, sq1]
    rfl
   refine pure_ (i := 6) (N := (some 4)) (v := ?_) (a' := ?_) #[true, true, true, true, true, true, true, false] rfl rfl (by kernel_rfl) (fun _ _ _ h => h) (Or.inl ⟨by rfl, ?_⟩) ?_ ?_
   rotate_left
   ·intro w'
    go_simp
    with_reducible rfl
   rotate_left
   ·simp only [Act.put, sqA, sq0, sq1]
    rfl
   have hR1' := Kd.R_grown hR1 hg2 (fun k hk e => by cases e)
   have hlt : w.drew.heap.size < wA.heap.size := Kd.R_lt hR1 w.drew.heap.size (by simp [Value.ownBlock])
   have hbw : Below w.heap.size w wB := (below_drew (qBr _ _)).grown (qgT hg1 hg2) (qlR _) (fun j hj => by cases hj)
   exact hcont (_, _) wB ⟨hbw, hR2, hR1', fun e => by have : wA.heap.size = w.drew.heap.size := e; omega⟩
 rintro ⟨g1, g2⟩ w3 ⟨hb3, hv1, hv2, hne⟩
 dsimp only [putAll]
 dsimp only at hv1 hv2 hne
 have HB3 := aMk hb3
 have HV1 := aMk (Kd.R_tight rfl hv1)
 have HV2 := aMk (Kd.R_tight rfl hv2)
 have HNE : Aside0 (∀ k, (Value.slice (some ⟨g1, 0, none⟩) 0 l.length).ownBlock = some k → (Value.slice (some ⟨g2, 0, none⟩) 0 l.length).ownBlock ≠ some k) := ⟨fun k h1 h2 => hne ((qoI h1).trans (qoI h2).symm)⟩
 clear hb3 hv1 hv2 hne
 refine norm_ (a' := ?_) ?_ ?_
 rotate_left
 ·simp only [Act.put, sqA, sq0, sq1]
  rfl
 refine pure_ (i := 7) (N := (some 5)) (v := ?_) (a' := ?_) #[true, true, true, true, true, true, true, true] rfl rfl (by kernel_rfl) (fun _ _ _ h => h) (Or.inl ⟨by rfl, ?_⟩) ?_ ?_
 rotate_left
 ·intro w'
  go_simp
  with_reducible rfl
 rotate_left
 ·simp only [Act.put, sqA, sq0, sq1]
  rfl
 refine done_ (by kernel_rfl) ?_
 have e0 : (0 : Int).toNat = 0 := rfl
 go_wp2_with fail
 go_loopw [4, 5, 16] (fun v4 v5 v wr => ∃ k : Nat, v = .int .i64 (k : Int) ∧ k ≤ l.length ∧ Aside0 (Kd.R k33 34 wr w.heap.size (fun k => some k = v4.ownBlock) v4 ((l.take k).map (·.f0))) ∧ Aside0 (Kd.R k33 34 wr w.heap.size (fun k => some k = v5.ownBlock) v5 ((l.take k).map (·.f1))) ∧ Aside0 (∀ k, v4.ownBlock = some k → v5.ownBlock ≠ some k) ∧ Aside0 (Below w.heap.size w wr)) (fun _ _ v _ => l.length - (intOf v).toNat)
 case atStart => exact ⟨0, rfl, Nat.zero_le _, HV1, HV2, HNE, HB3⟩
 case round =>
  clear HB3 HV1 HV2 HNE e0
  obtain ⟨k, rfl, hk, HR1, HR2, HNE, HB⟩ := hrel
  by_cases hlt : k < l.length
  ·obtain ⟨ad, ead, c0, c1, c2, c3⟩ := at_T45 (Kd.C_below HC.out HB.out) (k : Int) (by omega) (by omega)
   rw [rd45 hlt, qtN] at c0 c1 c2 c3
   obtain ⟨x, hx⟩ : ∃ x, x = l[k] := ⟨_, rfl⟩
   rw [← hx] at c0 c1 c2 c3
   have HXE := aMk hx
   have hkI : (k : Int) < (l.length : Int) := by omega
   subst ead
   clear hx
   go_wp2_with (first | ((with_reducible refine gate_dst (N := 7) rfl ?_); refine box_event ?hg (N := 7) ?hd (cs := #[.int .i64 0, .int .i64 0, .int .i64 0, .int .i64 0]) (t := 36) ?hr ?_; (case hd => rfl); (case hg => rfl); (case hr => go_simp; done); intro gb hg w6 hbox hb; have HX6 := aMk hbox; have HGB := aMk hg; have HB6 : Aside0 (Below w.heap.size w w6) := ⟨qbP HB.out hb⟩; have HR16 : Aside0 (Kd.R k33 34 w6 w.heap.size (fun k => some k = u4.ownBlock) u4 ((l.take k).map (·.f0))) := ⟨qrB HR1.out hb⟩; have HR26 : Aside0 (Kd.R k33 34 w6 w.heap.size (fun k => some k = u5.ownBlock) u5 ((l.take k).map (·.f1))) := ⟨qrB HR2.out hb⟩; have HBS := aMk HB.out.size; have z0 : w6.cell? ⟨gb, 0, none⟩ = some (.int .i64 0) := (blk_cell hbox 0).trans rfl; have z1 : w6.cell? ⟨gb, 1, none⟩ = some (.int .i64 0) := (blk_cell hbox 1).trans rfl; have z2 : w6.cell? ⟨gb, 2, none⟩ = some (.int .i64 0) := (blk_cell hbox 2).trans rfl; have z3 : w6.cell? ⟨gb, 3, none⟩ = some (.int .i64 0) := (blk_cell hbox 3).trans rfl; have f0 := qbF hbox 0; have f1 := qbF hbox 1; have f2 := qbF hbox 2; have f3 := qbF hbox 3; have HN1 : Aside0 (u4.ownBlock ≠ some gb) := ⟨fun e => by have := Kd.R_lt HR1.out gb e; omega⟩; have HN2 : Aside0 (u5.ownBlock ≠ some gb) := ⟨fun e => by have := Kd.R_lt HR2.out gb e; omega⟩; have HGE : Aside0 (w.heap.size ≤ gb) := ⟨by rw [hg]; exact HB.out.size⟩; clear hg hbox hb HB HR1 HR2))
   have HX := aMk (blk_put (blk_put (blk_put (blk_put HX6.out 0 (.int .i64 x.f0.f0) rfl) 1 (.int .i64 x.f0.f1) rfl) 2 (.int .i64 x.f1.f0) rfl) 3 (.int .i64 x.f1.f1) rfl)
   have HG7 := aMk (qgT (qgT (qgT (grown_set w6 gb 0 (.int .i64 x.f0.f0)) (grown_set _ gb 1 (.int .i64 x.f0.f1))) (grown_set _ gb 2 (.int .i64 x.f1.f0))) (grown_set _ gb 3 (.int .i64 x.f1.f1)))
   generalize (((w6.setCell ⟨gb, 0, none⟩ (.int .i64 x.f0.f0)).setCell ⟨gb, 1, none⟩ (.int .i64 x.f0.f1)).setCell ⟨gb, 2, none⟩ (.int .i64 x.f1.f0)).setCell ⟨gb, 3, none⟩ (.int .i64 x.f1.f1) = w7 at HX HG7 ⊢
   have HB7 : Aside0 (Below w.heap.size w w7) := ⟨HB6.out.grown HG7.out HB6.out.size (fun j hj => by obtain rfl := qoI hj; exact HGE.out)⟩
   have HR1 : Aside0 (Kd.R k33 34 w7 w.heap.size (fun k => some k = u4.ownBlock) u4 ((l.take k).map (·.f0))) := ⟨Kd.R_grown HR16.out HG7.out (fun j hj e => HN1.out (hj.symm.trans e))⟩
   have HR2 : Aside0 (Kd.R k33 34 w7 w.heap.size (fun k => some k = u5.ownBlock) u5 ((l.take k).map (·.f1))) := ⟨Kd.R_grown HR26.out HG7.out (fun j hj e => HN2.out (hj.symm.trans e))⟩
   have HPR : Aside0 (PR w7 w7.drew w.heap.size (fun k => k = gb) x.f0 x.f1 u4 ((l.take k).map (·.f0)) u5 ((l.take k).map (·.f1)) none none) := ⟨(PR.start HR1.out HR2.out HNE.out (fun k hk => by rw [hk]; exact blk_lt HX.out) (fun k hk => by rw [hk]; exact HN1.out) (fun k hk => by rw [hk]; exact HN2.out)).drew⟩
   have hlen : (l.take k).length = k := by rw [List.length_take]; omega
   have HLE := aMk hlen
   clear z0 z1 z2 z3 f0 f1 f2 f3 HX6 HB6 HR16 HR26 c0 c1 c2 c3 hlen HR1 HR2 HNE
   refine start_ (n := 12) (S := (fun W => W.heap[gb]? = some (.cells #[.int .i64 x.f0.f0, .int .i64 x.f0.f1, .int .i64 x.f1.f0, .int .i64 x.f1.f1] 36 (0, 0)))) (ds := [9]) #[false, false, false, false, false, false, false, false, false, false, false, false] (by kernel_rfl) (by kernel_rfl) (by rfl) HX.out (fun hS0 => ?_)
   refine pure_ (i := 0) (N := (some 20)) (v := ?_) (a' := ?_) #[true, false, false, false, false, false, false, false, false, false, false, false] rfl rfl (by kernel_rfl) (fun _ _ _ h => h) (Or.inl ⟨by rfl, ?_⟩) ?_ ?_
   rotate_left
   ·intro w'
    go_simp
    with_reducible rfl
   rotate_left
   ·simp only [Act.put, sqA, sq0, sq1]
    rfl
   refine pure_ (i := 1) (N := (some 21)) (v := ?_) (a' := ?_) #[true, true, false, false, false, false, false, false, false, false, false, false] rfl rfl (by kernel_rfl) (fun _ _ _ h => h) (Or.inl ⟨by rfl, ?_⟩) ?_ ?_
   rotate_left
   ·intro w'
    go_simp
    with_reducible rfl
   rotate_left
   ·simp only [Act.put, sqA, sq0, sq1]
    rfl
   refine take_ (i := 2) (N := (some 22)) (v := ?_) (a' := ?_) #[true, true, true, false, false, false, false, false, false, false, false, false] rfl rfl (by kernel_rfl) (fun _ _ _ h => h) (Or.inl ⟨by rfl, ?_⟩) hS0 ?_ ?_
   rotate_left
   ·intro w' s0
    have q0 := (blk_cell s0 0).trans rfl
    have q1 := (blk_cell s0 1).trans rfl
    go_simp
    with_reducible rfl
   rotate_left
   ·simp only [Act.put, sqA, sq0, sq1]
    rfl
   refine pure_ (i := 5) (N := (some 25)) (v := ?_) (a' := ?_) #[true, true, true, false, false, true, false, false, false, false, false, false] rfl rfl (by kernel_rfl) (fun _ _ _ h => h) (Or.inl ⟨by rfl, ?_⟩) ?_ ?_
   rotate_left
   ·intro w'
    go_simp
    with_reducible rfl
   rotate_left
   ·simp only [Act.put, sqA, sq0, sq1]
    rfl
   refine pure_ (i := 6) (N := (some 26)) (v := ?_) (a' := ?_) #[true, true, true, false, false, true, true, false, false, false, false, false] rfl rfl (by kernel_rfl) (fun _ _ _ h => h) (Or.inl ⟨by rfl, ?_⟩) ?_ ?_
   rotate_left
   ·intro w'
    go_simp
    with_reducible rfl
   rotate_left
   ·simp only [Act.put, sqA, sq0, sq1]
    rfl
   refine take_ (i := 7) (N := (some 27)) (v := ?_) (a' := ?_) #[true, true, true, false, false, true, true, true, false, false, false, false] rfl rfl (by kernel_rfl) (fun _ _ _ h => h) (Or.inl ⟨by rfl, ?_⟩) hS0 ?_ ?_
   rotate_left
   ·intro w' s0
    have q0 := (blk_cell s0 2).trans rfl
    have q1 := (blk_cell s0 3).trans rfl
    go_simp
    with_reducible rfl
   rotate_left
   ·simp only [Act.put, sqA, sq0, sq1]
    rfl
   clear hS0
   refine join_ (σ := Value × Nat × Nat) 3 #[true, true, true, true, true, true, true, true, true, false, false, false] (fun s => [(23, .slice (some ⟨s.2.1, 0, none⟩) 1 1), (24, s.1), (28, .slice (some ⟨s.2.2, 0, none⟩) 1 1)]) (fun s w' => Below w.heap.size w w' ∧ PR w7 w' w.heap.size (fun k => k = gb) x.f0 x.f1 s.1 ((l.take k).map (·.f0) ++ [x.f0]) u5 ((l.take k).map (·.f1)) none (some s.2.2)) ?_ (fun hcont => ?_)
   rotate_left
   ·refine two_ (i := 3) (j := 8) (Ni := some 23) (Nj := some 28) #[true, true, true, true, false, true, true, true, false, false, false, false] #[true, true, true, false, false, true, true, true, true, false, false, false] rfl rfl rfl rfl (by kernel_rfl) (by decide) (by decide) (fun K hK => ?_) (fun K hK => ?_)
    ·obtain ⟨wA, ewA⟩ : ∃ W, W = w7.drew.alloc (cells33 x.f0) := ⟨_, rfl⟩
     have hp1 := HPR.out.build
     rw [← ewA] at hp1
     have hbwA : Below w.heap.size w wA := by rw [ewA]; exact qbA (below_drew HB7.out) _
     refine value_ (w1 := wA) (v := .slice (some ⟨w7.drew.heap.size, 0, none⟩) 1 1) (by rfl) rfl (by rw [ewA]; go_simp) ?_
     change K (Act.put _ (some 23) _) _
     refine hK.out _ _ ((hp1.keep gb rfl).trans HX.out) (fun hS0 => ?_)
     clear hK
     refine norm_ (a' := ?_) ?_ ?_
     rotate_left
     ·simp only [Act.put, sqA, sq0, sq1]
      rfl
     clear hS0
     refine two_ (i := 4) (j := 8) (Ni := some 24) (Nj := some 28) #[true, true, true, true, true, true, true, true, false, false, false, false] #[true, true, true, true, false, true, true, true, true, false, false, false] rfl rfl rfl rfl (by kernel_rfl) (by decide) (by decide) (fun K hK => ?_) (fun K hK => ?_)
     ·refine Kd.R_append_rows_step k33 (w0 := w) w.heap.size (by rfl) (.tmp 20) (.tmp 23) 98 34 (.agg #[(.int .i64 0), (.int .i64 0)]) 16 rfl Tryz.underlying98 info33 rfl (by decide) (by omega) _ ((l.take k).map (·.f0)) [x.f0] (some ⟨w7.drew.heap.size, 0, none⟩) 1 1 (fun _ => True) (fun _ => False) rfl rfl (qrM hp1.r1 (fun _ _ => trivial)) (one33 (hp1.b1 _ rfl).1) (fun y cs h => by rw [k33_open h]; exact k33_mkM _ _ _ y) (fun _ h => h.elim) (fun _ _ => trivial) hbwA (hbwA).size (by rw [qlm, HLE.out]; have := HL.out; omega) ?_
      intro v1 wB hv hbwB hg hat
      have hp2 := hp1.append hv hg hat
      clear hv hg hat
      change K (Act.put _ (some 24) _) _
      refine hK.out _ _ ((hp2.keep gb rfl).trans HX.out) (fun hS0 => ?_)
      clear hK
      refine norm_ (a' := ?_) ?_ ?_
      rotate_left
      ·simp only [Act.put, sqA, sq0, sq1]
       rfl
      clear hS0
      refine one_ (i := 8) (N := (some 28)) #[true, true, true, true, true, true, true, true, true, false, false, false] rfl rfl (by kernel_rfl) (by decide) (fun K hK => ?_)
      obtain ⟨wC, ewC⟩ : ∃ W, W = wB.alloc (cells33 x.f1) := ⟨_, rfl⟩
      have hp3 := hp2.symm.build.symm
      rw [← ewC] at hp3
      have hbwC : Below w.heap.size w wC := by rw [ewC]; exact qbA hbwB _
      refine value_ (w1 := wC) (v := .slice (some ⟨wB.heap.size, 0, none⟩) 1 1) (by rfl) rfl (by rw [ewC]; go_simp) ?_
      change K (Act.put _ (some 28) _) _
      refine hK.out _ _ ((hp3.keep gb rfl).trans HX.out) (fun hS0 => ?_)
      clear hK
      exact hcont (v1, _, _) wC ⟨hbwC, hp3⟩
     ·obtain ⟨wB, ewB⟩ : ∃ W, W = wA.alloc (cells33 x.f1) := ⟨_, rfl⟩
      have hp2 := hp1.symm.build.symm
      rw [← ewB] at hp2
      have hbwB : Below w.heap.size w wB := by rw [ewB]; exact qbA hbwA _
      refine value_ (w1 := wB) (v := .slice (some ⟨wA.heap.size, 0, none⟩) 1 1) (by rfl) rfl (by rw [ewB]; go_simp) ?_
      change K (Act.put _ (some 28) _) _
      refine hK.out _ _ ((hp2.keep gb rfl).trans HX.out) (fun hS0 => ?_)
      clear hK
      refine norm_ (a' := ?_) ?_ ?_
      rotate_left
      ·simp only [Act.put, sqA, sq0, sq1]
       rfl
      clear hS0
      refine one_ (i := 4) (N := (some 24)) #[true, true, true, true, true, true, true, true, true, false, false, false] rfl rfl (by kernel_rfl) (by decide) (fun K hK => ?_)
      refine Kd.R_append_rows_step k33 (w0 := w) w.heap.size (by rfl) (.tmp 20) (.tmp 23) 98 34 (.agg #[(.int .i64 0), (.int .i64 0)]) 16 rfl Tryz.underlying98 info33 rfl (by decide) (by omega) _ ((l.take k).map (·.f0)) [x.f0] (some ⟨w7.drew.heap.size, 0, none⟩) 1 1 (fun _ => True) (fun _ => False) rfl rfl (qrM hp2.r1 (fun _ _ => trivial)) (one33 (hp2.b1 _ rfl).1) (fun y cs h => by rw [k33_open h]; exact k33_mkM _ _ _ y) (fun _ h => h.elim) (fun _ _ => trivial) hbwB (hbwB).size (by rw [qlm, HLE.out]; have := HL.out; omega) ?_
      intro v1 wC hv hbwC hg hat
      have hp3 := hp2.append hv hg hat
      clear hv hg hat
      change K (Act.put _ (some 24) _) _
      refine hK.out _ _ ((hp3.keep gb rfl).trans HX.out) (fun hS0 => ?_)
      clear hK
      exact hcont (v1, _, _) wC ⟨hbwC, hp3⟩
    ·obtain ⟨wA, ewA⟩ : ∃ W, W = w7.drew.alloc (cells33 x.f1) := ⟨_, rfl⟩
     have hp1 := HPR.out.symm.build.symm
     rw [← ewA] at hp1
     have hbwA : Below w.heap.size w wA := by rw [ewA]; exact qbA (below_drew HB7.out) _
     refine value_ (w1 := wA) (v := .slice (some ⟨w7.drew.heap.size, 0, none⟩) 1 1) (by rfl) rfl (by rw [ewA]; go_simp) ?_
     change K (Act.put _ (some 28) _) _
     refine hK.out _ _ ((hp1.keep gb rfl).trans HX.out) (fun hS0 => ?_)
     clear hK
     refine norm_ (a' := ?_) ?_ ?_
     rotate_left
     ·simp only [Act.put, sqA, sq0, sq1]
      rfl
     clear hS0
     refine one_ (i := 3) (N := (some 23)) #[true, true, true, true, false, true, true, true, true, false, false, false] rfl rfl (by kernel_rfl) (by decide) (fun K hK => ?_)
     obtain ⟨wB, ewB⟩ : ∃ W, W = wA.alloc (cells33 x.f0) := ⟨_, rfl⟩
     have hp2 := hp1.build
     rw [← ewB] at hp2
     have hbwB : Below w.heap.size w wB := by rw [ewB]; exact qbA hbwA _
     refine value_ (w1 := wB) (v := .slice (some ⟨wA.heap.size, 0, none⟩) 1 1) (by rfl) rfl (by rw [ewB]; go_simp) ?_
     change K (Act.put _ (some 23) _) _
     refine hK.out _ _ ((hp2.keep gb rfl).trans HX.out) (fun hS0 => ?_)
     clear hK
     refine norm_ (a' := ?_) ?_ ?_
     rotate_left
     ·simp only [Act.put, sqA, sq0, sq1]
      rfl
     clear hS0
     refine one_ (i := 4) (N := (some 24)) #[true, true, true, true, true, true, true, true, true, false, false, false] rfl rfl (by kernel_rfl) (by decide) (fun K hK => ?_)
     refine Kd.R_append_rows_step k33 (w0 := w) w.heap.size (by rfl) (.tmp 20) (.tmp 23) 98 34 (.agg #[(.int .i64 0), (.int .i64 0)]) 16 rfl Tryz.underlying98 info33 rfl (by decide) (by omega) _ ((l.take k).map (·.f0)) [x.f0] (some ⟨wA.heap.size, 0, none⟩) 1 1 (fun _ => True) (fun _ => False) rfl rfl (qrM hp2.r1 (fun _ _ => trivial)) (one33 (hp2.b1 _ rfl).1) (fun y cs h => by rw [k33_open h]; exact k33_mkM _ _ _ y) (fun _ h => h.elim) (fun _ _ => trivial) hbwB (hbwB).size (by rw [qlm, HLE.out]; have := HL.out; omega) ?_
     intro v1 wC hv hbwC hg hat
     have hp3 := hp2.append hv hg hat
     clear hv hg hat
     change K (Act.put _ (some 24) _) _
     refine hK.out _ _ ((hp3.keep gb rfl).trans HX.out) (fun hS0 => ?_)
     clear hK
     exact hcont (v1, _, _) wC ⟨hbwC, hp3⟩
   rintro ⟨v1, b1, b2⟩ w8 ⟨hb8, hp8⟩
   dsimp only [putAll]
   dsimp only at hp8
   have HB8 := aMk hb8
   have HP8 := aMk hp8.symm
   clear hb8 hp8
   refine norm_ (a' := ?_) ?_ ?_
   rotate_left
   ·simp only [Act.put, sqA, sq0, sq1]
    rfl
   refine last_ (i := 9) (N := (some 29)) #[true, true, true, true, true, true, true, true, true, true, false, false] rfl rfl (by kernel_rfl) (by decide) (fun K hK => ?_)
   refine Kd.R_append_rows_step k33 (w0 := w) w.heap.size (by rfl) (.tmp 25) (.tmp 28) 98 34 (.agg #[(.int .i64 0), (.int .i64 0)]) 16 rfl Tryz.underlying98 info33 rfl (by decide) (by omega) _ ((l.take k).map (·.f1)) [x.f1] (some ⟨b2, 0, none⟩) 1 1 (fun _ => True) (fun _ => False) rfl rfl (qrM HP8.out.r1 (fun _ _ => trivial)) (one33 (HP8.out.b1 _ rfl).1) (fun y cs h => by rw [k33_open h]; exact k33_mkM _ _ _ y) (fun _ h => h.elim) (fun _ _ => trivial) HB8.out (HB8.out).size (by rw [qlm, HLE.out]; have := HL.out; omega) ?_
   intro v2 w9 hv hbw9 hg hat
   have hp9 := HP8.out.append hv hg hat
   clear hv hg hat
   have HP9 := aMk hp9.symm
   have HB9 := aMk hbw9
   clear hp9 hbw9
   change K (Act.put _ (some 29) _) _
   refine hK.out _ _ ?_
   clear hK
   refine norm_ (a' := ?_) ?_ ?_
   rotate_left
   ·simp only [Act.put, sqA, sq0, sq1]
    rfl
   refine pure_ (i := 10) (N := (some 4)) (v := ?_) (a' := ?_) #[true, true, true, true, true, true, true, true, true, true, true, false] rfl rfl (by kernel_rfl) (fun _ _ _ h => h) (Or.inl ⟨by rfl, ?_⟩) ?_ ?_
   rotate_left
   ·intro w'
    go_simp
    with_reducible rfl
   rotate_left
   ·simp only [Act.put, sqA, sq0, sq1]
    rfl
   refine pure_ (i := 11) (N := (some 5)) (v := ?_) (a' := ?_) #[true, true, true, true, true, true, true, true, true, true, true, true] rfl rfl (by kernel_rfl) (fun _ _ _ h => h) (Or.inl ⟨by rfl, ?_⟩) ?_ ?_
   rotate_left
   ·intro w'
    go_simp
    with_reducible rfl
   rotate_left
   ·simp only [Act.put, sqA, sq0, sq1]
    rfl
   refine done_ (by kernel_rfl) ?_
   go_wp2_with fail
   have e1 : (l.take (k + 1)).map (·.f0) = (l.take k).map (·.f0) ++ [x.f0] := by rw [qtS hlt, List.map_append, ← HXE.out]; rfl
   have e2 : (l.take (k + 1)).map (·.f1) = (l.take k).map (·.f1) ++ [x.f1] := by rw [qtS hlt, List.map_append, ← HXE.out]; rfl
   exact ⟨⟨k + 1, by go_num, by omega, ⟨by rw [e1]; exact HP9.out.r1⟩, ⟨by rw [e2]; exact HP9.out.r2⟩, ⟨HP9.out.ne⟩, HB9⟩, by simp [intOf]; omega⟩
  ·have ek : k = l.length := by omega
   subst ek
   go_wp2_with fail
   refine bodyPost_ret (results_tmp2 rfl _ _ _) rfl ?_
   rw [List.take_length] at HR1 HR2
   exact ⟨_, _, rfl, HR1.out, HR2.out, HNE.out, HB.out⟩
end CFin
end
section
namespace CSort
open U PClusterFinest
open Go.Shelf
shelf_lay_g SlLaysF0.n6 Slsf 6 at Tryz 276 as lsort
shelf_lay_g SlLaysC2.n5 Slgc 5 at Tryz 150 as lcmp
instance : Inhabited S33 := ⟨z33⟩
def enc33 (x : S33) : List Value := [.int .i64 x.f0, .int .i64 x.f1]
def cf33 (x y : S33) : Int := Lib.compareInt x.f0 y.f0
theorem lt33 (x y : S33) : ltOf cf33 x y = decide (x.f0 < y.f0) := by
 unfold ltOf cf33 Lib.compareInt
 by_cases h1 : x.f0 < y.f0
 ·simp [h1]
 ·by_cases h2 : y.f0 < x.f0 <;> simp [h1, h2]
theorem swo33 : Go.Sort.SWO (ltOf cf33) where
 irrefl x := by rw [lt33]; simp
 trans x y z h1 h2 := by rw [lt33] at *; simp at *; omega
 ntrans x y z h1 h2 := by rw [lt33] at *; simp at *; omega
theorem byLo_c (x y : S33) (W : World) : Calls Tryz.prog 90 #[.agg #[.int .i64 x.f0, .int .i64 x.f1], .agg #[.int .i64 y.f0, .int .i64 y.f1]] W fun e w' => e = .returned (.int .i64 (cf33 x y)) ∧ ∃ q os', w' = Go.Sort.grow (W.drewN q) os' := by
 have hcon := fun W' => AnyG.cmp_Compare_int lcmp x.f0 y.f0 W'
 change ∀ W', Calls Tryz.prog 150 _ _ _ at hcon
 unfold cf33
 generalize Lib.compareInt x.f0 y.f0 = r at hcon ⊢
 go_enter Tryz.func90, Tryz.ntmps90
 go_wp2_with (go_at_call 150; refine (hcon _).mono ?_; rintro e w' ⟨rfl, rfl⟩)
 go_ret
 exact ⟨rfl, 0, _, by rw [Go.Sort.alloc_eq_grow, Go.Sort.alloc_eq_grow, Go.Sort.grow_grow]; rfl⟩
theorem size_put33 (w : World) (g : Nat) (d : Array S33) : (Go.Sort.putRowK enc33 2 w g 0 d).heap.size = w.heap.size := by simp [Go.Sort.putRowK, Go.Sort.putRow, Go.Sort.mapBlock]
theorem grown_sorted {w : World} {g n : Nat} {d : Array S33} {os : Array Obj} : w.grownBy (sortWorldK enc33 2 w g 0 n d os) (some g) := by
 have h1 : (Go.Sort.putRowK enc33 2 (Go.Sort.ahead w n) g 0 d).heap.size = w.heap.size := size_put33 _ g d
 refine ⟨rfl, rfl, rfl, ?_, fun k hk hne => ?_⟩
 ·unfold sortWorldK
  rw [Go.Sort.size_grow, h1]
  omega
 ·unfold sortWorldK
  rw [Go.Sort.heap_grow_old _ _ (by rw [h1]; exact hk)]
  unfold Go.Sort.putRowK Go.Sort.putRow Go.Sort.mapBlock
  show ((Go.Sort.ahead w n).heap.modify g _)[k]? = _
  rw [Array.getElem?_modify, if_neg (fun e => hne (by rw [e]))]
  rfl
theorem get33 (f : List S33) (i : Nat) (h : i < f.length) : (f.toArray[i]! : S33) = f.getD i z33 := by
 rw [qgD, qgG h, getElem!_pos f.toArray i (by simpa using h)]
 simp
theorem enc_at (x : S33) (j : Nat) : (enc33 x)[j]! = if j = 0 then .int .i64 x.f0 else if j = 1 then .int .i64 x.f1 else default := by
 match j with
 | 0 => rfl
 | 1 => rfl
 | j + 2 => rfl
theorem holds33 {w : World} {base : Nat} {ok : Nat → Prop} {g cap : Nat} {f : List S33} (h : Kd.R k33 34 w base ok (.slice (some ⟨g, 0, none⟩) f.length cap) f) : Go.Sort.HoldsK enc33 2 w g 0 f.toArray := by
 intro t ht
 rw [Go.Sort.size_flatK] at ht
 have ht' : t < f.length * 2 := by simpa using ht
 rw [Go.Sort.get_flatK _ _ _ t ht, get33 f (t / 2) (by omega), enc_at]
 obtain ⟨c, hc, hM, hcell, hfr⟩ := Kd.R_elem h z33 ((t / 2 : Nat) : Int) (by omega) (by omega)
 obtain rfl := k33_openM hM
 rw [qtN] at hcell hfr
 have hsz : k33.sz = 2 := rfl
 rw [hsz] at hcell hfr
 rw [Nat.zero_add]
 rcases Nat.mod_two_eq_zero_or_one t with e | e
 ·have e2 : t / 2 * 2 + 0 = t := by omega
  have h1 := hcell 0 _ rfl
  have h2 := hfr 0
  rw [e2] at h1 h2
  rw [e]
  exact ⟨h1, h2⟩
 ·have e2 : t / 2 * 2 + 1 = t := by omega
  have h1 := hcell 1 _ rfl
  have h2 := hfr 1
  rw [e2] at h1 h2
  rw [e]
  exact ⟨h1, h2⟩
theorem reads33 {w : World} {g cap : Nat} {d : Array S33} (h : Go.Sort.HoldsK enc33 2 w g 0 d) (hc : d.size ≤ cap) (hm : d.size ≤ 1000000) : SLk k33 w (.slice (some ⟨g, 0, none⟩) d.toList.length cap) d.toList := by
 refine ⟨_, _, rfl, by simpa using hc, rfl, by simp; omega, fun hn => ⟨_, rfl, fun j p hj => ?_⟩⟩
 obtain ⟨hl, hp⟩ := List.getElem?_eq_some_iff.1 hj
 have hl' : j < d.size := by simpa using hl
 have hg : ∀ i, i < 2 → w.cell? ⟨g, j * 2 + i, none⟩ = some ((enc33 p)[i]!) := fun i hi => by
  have h1 := (h (j * 2 + i) (by rw [Go.Sort.size_flatK]; omega)).1
  rw [Nat.zero_add, Go.Sort.get_flatK _ _ _ _ (by omega), show (j * 2 + i) / 2 = j by omega, show (j * 2 + i) % 2 = i by omega, getElem!_pos d j hl'] at h1
  have e : d[j] = p := by simpa using hp
  rw [e] at h1
  exact h1
 refine ⟨_, rfl, k33_mk w p, fun i u hu => ?_⟩
 have ea : (⟨g, 0, none⟩ : Addr).add (j * k33.sz + i) = ⟨g, j * 2 + i, none⟩ := by rw [add_plain]; rfl
 rw [ea]
 match i, hu with
 | 0, hu => obtain rfl := qoI hu; exact hg 0 (by omega)
 | 1, hu => obtain rfl := qoI hu; exact hg 1 (by omega)
theorem perm_of {f : List S33} {d' : Array S33} (hp : Go.Sort.PermIn 0 f.length f.toArray d') : d'.toList.Perm f := by
 have hsz : d'.size = f.length := by simpa using hp.1
 have := hp.2.2
 have e : List.take f.length d'.toList = d'.toList := List.take_of_length_le (by simp [hsz])
 have h2 : (List.take f.length d'.toList).Perm f := by simpa [hsz] using this
 rwa [e] at h2
theorem sort_c {w : World} {base : Nat} {ok : Nat → Prop} {v : Value} {f : List S33} (h : Kd.R k33 34 w base ok v f) (hm : f.length ≤ 1000000) :
 Calls Tryz.prog 276 #[v, .func (.func 90) #[] #[]] w fun e w' => e = .returned (.tuple #[]) ∧ ∃ d : List S33, d.Perm f ∧ d.Pairwise (fun a b => ¬ b.f0 < a.f0) ∧ SLk k33 w' v d ∧ w.grownBy w' v.ownBlock := by
 by_cases h0 : 0 < f.length
 ·obtain ⟨g, cap, rfl, hg, hgs, _⟩ := Kd.R_form h h0
  have hH := holds33 h
  obtain ⟨_, hcap, _⟩ := Kd.R_reads' h
  have hcon := AnyQ.slices_SortFunc lsort 2 Tryz.isAgg34 Tryz.sizeOf34 enc33 (fun _ => rfl) (fun x v hv => by simp [enc33] at hv; rcases hv with rfl | rfl <;> rfl) cf33 swo33 90 #[] g 0 cap f.toArray w (enters_of Tryz.func90 (by kernel_rfl) rfl) (fun _ _ _ _ x y => byLo_c x y _) hH hgs (by simp; omega)
  refine hcon.mono ?_
  rintro e w' ⟨rfl, d', n, os, hp, hs, rfl⟩
  have hsz : d'.size = f.length := by simpa using hp.1
  refine ⟨rfl, d'.toList, perm_of (by simpa using hp), ?_, ?_, grown_sorted⟩
  ·rw [List.pairwise_iff_getElem]
   intro i j hi hj hij
   have := hs i j (Nat.zero_le _) hij (by simpa [hsz] using hj)
   rw [lt33, getElem!_pos d' i (by simpa using hi), getElem!_pos d' j (by simpa using hj)] at this
   simpa using this
  ·have := reads33 (cap := cap) (holdsK_sortWorldK enc33 2 w g 0 n f.toArray d' os hgs hH (by simpa using hsz)) (by omega) (by omega)
   rw [show d'.toList.length = f.length by simpa using hsz] at this
   exact this
 ·obtain rfl : f = [] := List.eq_nil_of_length_eq_zero (by omega)
  obtain ⟨A, c, rfl⟩ := Kd.R_slice h
  refine (AnyF.slices_SortFunc_none lsort A c _ w).mono ?_
  rintro e w' ⟨rfl, rfl⟩
  exact ⟨rfl, [], List.Perm.refl _, List.Pairwise.nil, SLk.of_R h, World.grownBy.refl _ _⟩
end CSort
end
end Go.Proofs.YtemhccjjcioodaaGreat
