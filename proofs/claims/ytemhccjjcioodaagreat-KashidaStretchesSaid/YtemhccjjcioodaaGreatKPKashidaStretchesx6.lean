/- Cut. -/
import Derived.Test.YtemhccjjcioodaaGreatProg
import Derived.Below
import Derived.Deep.Draws
import Derived.Deep.AppendLies
import Derived.Maps.AppendAt
import Derived.OwnWalk
import Derived.Laws.BytesArg
import Derived.Laws.MakeOwn
import Derived.Laws.OwnMore
import Derived.Deep.OwnRows
import Derived.Tactics
import Derived.Lib.ConvBytes
import Derived.Laws.Slices
import Derived.WalkKit
import Derived.KernelRfl
import Derived.RowKit3
import Derived.Deep.LoopGhost
import Derived.Deep.QuietTactic
import Derived.BigQuiet
import Derived.WideLaws
import Derived.Deep.DeepCutAuto
import Derived.Deep.CutBlock
import Derived.Deep.RegionHeld3
import Derived.Laws.Rows
import Derived.Lib.AppendStr
import Derived.ArgAppend
import Derived.Laws.IdiomCopy
import Derived.OrdersHeld
import Derived.Laws.BitsLemmas
import Derived.RowKit
import Derived.Test.YtemhccjjcioodaaGreatKWWords
import Derived.Test.YtemhccjjcioodaaGreatKWMore
import Derived.Test.YtemhccjjcioodaaGreatKAl
set_option linter.unusedSimpArgs false
set_option linter.unusedVariables false
set_option maxRecDepth 100000
set_option maxHeartbeats 16000000
namespace Go.Proofs.YtemhccjjcioodaaGreat
open Go.RowKit YtemhccjjcioodaaGreatW.PrintLast YtemhccjjcioodaaGreatW.PrintMore YtemhccjjcioodaaGreatW.PrintWords
section
namespace PKashidaStretches

attribute [local go_sem] max2_int min2_int max_two min_two max_three min_three max_four min_four
def errW : Option Int → Value
 | none => .nilIface
 | some c => .iface 0 (.int .i64 c)
theorem errW_none : errW none = .nilIface := rfl
theorem errW_some (c : Int) : errW (some c) = .iface 0 (.int .i64 c) := rfl
theorem info3 : (Tryz.prog.info? 3).map (fun i => (i.zero, i.size, i.bytes)) = some (some (.int .i64 0), 1, 8) := by kernel_rfl
-- the values' own types
def rd_L2 (xs : List (List Int)) (i : Int) : (List Int) := xs.getD i.toNat ([] : List Int)
theorem at_L2 {w : World} {A : Option Addr} {n : Nat} {xs : List (List Int)} (h : Kd.C (Kd.slice 3 (Kd.int .i64)) w A n xs) (i : Int) (h0 : 0 ≤ i) (h1 : i < n) : ∃ ad A0 c0, A = some ad ∧ w.cell? (ad.add i.toNat) = some (.slice A0 (rd_L2 xs i).length c0) ∧ (rd_L2 xs i).length ≤ c0 ∧ (Kd.int .i64).C w A0 (rd_L2 xs i).length (rd_L2 xs i) := by
 obtain ⟨ad, c, e, _, hK, hc0⟩ := Kd.C_get h ([] : List Int) i h0 h1
 have hc : ∀ j u, c[j]? = some u → w.cell? (ad.add (i.toNat * 1 + j)) = some u := hc0
 obtain ⟨A0, c0, rfl, l0, g0⟩ := hK
 exact ⟨ad, A0, c0, e, by have hq := hc 0 _ rfl; rwa [Nat.mul_one, Nat.add_zero] at hq, l0, g0⟩
structure S95 where
 f0 : Int
 f1 : Int
 f2 : Int
def z95 : S95 := ⟨(0 : Int), (0 : Int), (0 : Int)⟩
def k95 : Kd S95 := Kd.iso (Kd.pair (Kd.int .i64) (Kd.pair (Kd.int .i64) (Kd.int .i64))) (fun x : S95 => (x.f0, x.f1, x.f2))
theorem k95_open {w : World} {x : S95} {cs : List Value} (h : k95.K w x cs) : cs = [.int .i64 x.f0, .int .i64 x.f1, .int .i64 x.f2] := by
 obtain ⟨_, _, rfl, rfl, ⟨_, _, rfl, rfl, rfl⟩⟩ := h
 exact rfl
theorem k95_mkM (w : World) (base : Nat) (ok : Nat → Prop) (x : S95)  : k95.M w base ok x [.int .i64 x.f0, .int .i64 x.f1, .int .i64 x.f2] := ⟨[.int .i64 x.f0], [.int .i64 x.f1, .int .i64 x.f2], rfl, rfl, ⟨[.int .i64 x.f1], [.int .i64 x.f2], rfl, rfl, rfl⟩⟩
def rd_T95 (xs : List S95) (i : Int) : S95 := xs.getD i.toNat z95
theorem at_T95 {w : World} {A : Option Addr} {n : Nat} {xs : List S95} (h : Kd.C k95 w A n xs) (i : Int) (h0 : 0 ≤ i) (h1 : i < n) : ∃ ad , A = some ad ∧ w.cell? (ad.add (i.toNat * 3)) = some (.int .i64 (rd_T95 xs i).f0) ∧ w.cell? ⟨(ad.add (i.toNat * 3)).block, (ad.add (i.toNat * 3)).off + 1, none⟩ = some (.int .i64 (rd_T95 xs i).f1) ∧ w.cell? ⟨(ad.add (i.toNat * 3)).block, (ad.add (i.toNat * 3)).off + 2, none⟩ = some (.int .i64 (rd_T95 xs i).f2) := by
 obtain ⟨ad, c, e, _, hK, hc0⟩ := Kd.C_get h z95 i h0 h1
 have hc : ∀ j u, c[j]? = some u → w.cell? (ad.add (i.toNat * 3 + j)) = some u := hc0
 obtain rfl := k95_open hK
 exact ⟨ad, e, hc 0 _ rfl, by rw [← add_field _ _ 1 (by omega)]; exact hc 1 _ rfl, by rw [← add_field _ _ 2 (by omega)]; exact hc 2 _ rfl⟩
end PKashidaStretches
end
section
namespace PKashidaStretches

attribute [local go_sem] max2_int min2_int max_two min_two max_three min_three max_four min_four
def join_there.f (l0 : List Int) (a1 : Int) : Option (Bool) := if a1 ≥ 0 then (some (decide (a1 < (l0.length : Int)))) else (some false)
theorem join_there.calls (A0 : Option Addr) (c0 : Nat) (l0 : List Int) (a1 : Int) (r : Bool) (w : World) (hr0 : Kd.C (Kd.int .i64) w A0 l0.length l0) (hc0 : l0.length ≤ c0) (h : join_there.f l0 a1 = some r) :
 Calls Tryz.prog 267 #[.slice A0 l0.length c0, .int .i64 a1] w fun e w' => e = .returned (.bool r) ∧ Drawn0 w w' := by
 have HR0 := aMk hr0
 have HC0 := aMk hc0
 clear hr0 hc0
 have H : (if a1 ≥ 0 then (some (decide (a1 < (l0.length : Int)))) else (some false)) = some r := h
 clear h
 by_cases c3 : a1 ≥ 0
 ·rw [if_pos c3] at H
  have c3b0 : decide (0 ≤ a1) = true := qdT c3
  clear c3
  obtain rfl := qoI H
  go_enter Tryz.func267, Tryz.ntmps267
  go_wp2
  go_ret
  exact ⟨by first | rfl | (simp; done) | (simp [*]; done), by repeat (first | exact qDr _ | apply qDs)⟩
 ·rw [if_neg c3] at H
  have c3b0 : decide (0 ≤ a1) = false := qdF c3
  clear c3
  obtain rfl := qoI H
  go_enter Tryz.func267, Tryz.ntmps267
  go_wp2
  go_ret
  exact ⟨by first | rfl | (simp; done) | (simp [*]; done), by repeat (first | exact qDr _ | apply qDs)⟩
def join_walk.l0 : Nat → List Int → Int → Int → Option (Int)
 | 0, _, _, _ => none
 | k + 1, x0, x1, x2 => (join_there.f x0 x1).bind fun t112 => (if t112 = true then (if 0 ≤ x1 then (if x1 < (x0.length : Int) then (if (rd x0 x1) = 1 then (join_walk.l0 k x0 (wrap64 (x1 + x2)) x2) else (some x1)) else (none)) else (none)) else (some (-1)))
def join_walk.f (k : Nat) (l0 : List Int) (a1 : Int) (a2 : Int) : Option (Int) := (join_there.f l0 a1).bind fun t111 => (if t111 = true then (join_walk.l0 k l0 (wrap64 (a1 + a2)) a2) else (some (-1)))
theorem join_walk.mono_l : ∀ k, (∀ y0 y1 y2, LeO (join_walk.l0 k y0 y1 y2) (join_walk.l0 (k + 1) y0 y1 y2))
 | 0 => fun _ _ _ r h => by simp [join_walk.l0] at h
 | k + 1 => by
  have ih0 := join_walk.mono_l k
  ·intro y0 y1 y2
   unfold join_walk.l0
   repeat' first
   | (with_reducible exact ih0 _ _ _)
   | (with_reducible exact LeO.refl _)
   | (with_reducible exact LeO.none _)
   | (with_reducible refine LeO.ite ?_ ?_)
   | (with_reducible refine LeO.bind ?_ (fun _ => ?_))
   | exact ih0 _ _ _
   | exact LeO.none _
   | refine LeO.ite ?_ ?_
   | refine LeO.bind ?_ (fun _ => ?_)
theorem join_walk.mono : ∀ a0 a1 a2 k, LeO (join_walk.f k a0 a1 a2) (join_walk.f (k + 1) a0 a1 a2) := by
 intro a0 a1 a2 k
 have ih0 := join_walk.mono_l k
 unfold join_walk.f
 repeat' first
  | (with_reducible exact ih0 _ _ _)
  | (with_reducible exact LeO.refl _)
  | (with_reducible exact LeO.none _)
  | (with_reducible refine LeO.ite ?_ ?_)
  | (with_reducible refine LeO.bind ?_ (fun _ => ?_))
  | exact ih0 _ _ _
  | exact LeO.none _
  | refine LeO.ite ?_ ?_
  | refine LeO.bind ?_ (fun _ => ?_)
theorem join_walk.calls (k : Nat) (A0 : Option Addr) (c0 : Nat) (l0 : List Int) (a1 : Int) (a2 : Int) (r : Int) (w : World) (hr0 : Kd.C (Kd.int .i64) w A0 l0.length l0) (hc0 : l0.length ≤ c0) (h : join_walk.f k l0 a1 a2 = some r) :
 Calls Tryz.prog 237 #[.slice A0 l0.length c0, .int .i64 a1, .int .i64 a2] w fun e w' => e = .returned (.int .i64 r) ∧ Drawn0 w w' := by
 have HR0 := aMk hr0
 have HC0 := aMk hc0
 clear hr0 hc0
 have H : ((join_there.f l0 a1).bind fun t111 => (if t111 = true then (join_walk.l0 k l0 (wrap64 (a1 + a2)) a2) else (some (-1)))) = some r := h
 clear h
 replace H := qoB.mp H
 obtain ⟨t111, A40, H⟩ := H
 try dsimp only at H
 have A4 := aMk A40; clear A40
 by_cases c5 : t111 = true
 ·subst c5
  rw [if_pos rfl] at H
  have H' := aMk H
  clear H
  go_enter Tryz.func237, Tryz.ntmps237
  go_wp2_with (first | ((with_reducible refine gate_callee (f := 267) rfl ?_); refine goesL_ (some 9) rfl rfl Tryz.func267 (by kernel_rfl) rfl #[.slice A0 l0.length c0, .int .i64 a1] rfl (by (try simp only [lm0, lm1, lm2]); first | done | rfl | (simp only [lm3, lm4]; rfl)) ?_; (with_reducible refine (join_there.calls _ _ l0 a1 true _ ?side1 ?side2 A4.out).mono ?_); (case side1 => exact HR0.out); (case side2 => exact HC0.out); rintro e w' ⟨rfl, ⟨nd, rfl⟩⟩; refine ⟨_, rfl, ?_⟩))
  go_loopg [1] k (fun kq v1 w' => ∃ (x1_1 : Int), v1 = .int .i64 x1_1 ∧ Aside0 (join_walk.l0 kq l0 x1_1 a2 = some r) ∧ Aside0 (kq ≤ k) ∧ Drawn0 w w')
  case atStart => exact ⟨(wrap64 (a1 + a2)), rfl, H', ⟨qlR _⟩, by repeat (first | exact qDr _ | apply qDs)⟩
  case round =>
   clear H'
   obtain ⟨x1_1, rfl, HA, HK1, ⟨m1, rfl⟩⟩ := hrel
   cases gk with
   | zero => exact absurd HA.out (by simp [join_walk.l0])
   | succ k1 =>
    have H := HA.out
    clear HA
    simp only [join_walk.l0] at H
    replace H := qoB.mp H
    obtain ⟨t112, A60, H⟩ := H
    try dsimp only at H
    have A6 := aMk A60; clear A60
    by_cases c7 : t112 = true
    ·subst c7
     rw [if_pos rfl] at H
     by_cases c8 : 0 ≤ x1_1
     ·rw [if_pos c8] at H
      have c8b0 := qdT c8
      clear c8
      by_cases c9 : x1_1 < (l0.length : Int)
      ·rw [if_pos c9] at H
       have c9b0 := qdT c9
       clear c9
       by_cases c10 : (rd l0 x1_1) = 1
       ·rw [if_pos c10] at H
        have c10b0 : ((rd l0 x1_1) == 1) = true := beq_iff_eq.mpr c10
        have c10b1 : ((rd l0 x1_1) != 1) = false := bne_eq_false_iff_eq.mpr c10
        clear c10
        have H' := aMk H
        clear H
        go_wp2_with (first | ((with_reducible refine gate_callee (f := 267) rfl ?_); refine goesL_ (some 16) rfl rfl Tryz.func267 (by kernel_rfl) rfl #[.slice A0 l0.length c0, .int .i64 x1_1] rfl (by (try simp only [lm0, lm1, lm2]); first | done | rfl | (simp only [lm3, lm4]; rfl)) ?_; (with_reducible refine (join_there.calls _ _ l0 x1_1 true _ ?side1 ?side2 A6.out).mono ?_); (case side1 => exact HR0.out); (case side2 => exact HC0.out); rintro e w' ⟨rfl, ⟨nd, rfl⟩⟩; refine ⟨_, rfl, ?_⟩; have p113 : 0 ≤ (x1_1 : Int) := qoD (by assumption); have q113 : x1_1 < (l0.length : Int) := qoD (by assumption); obtain ⟨ad113, e113, hx113_0⟩ := Kd.at_int HR0.out x1_1 p113 q113; cases e113; replace p113 := eq_true p113; replace q113 := eq_true q113))
        go_roundg k1
        case measure => have := HK1.out; omega
        case rel => exact ⟨(wrap64 (x1_1 + a2)), rfl, H', ⟨by have := HK1.out; omega⟩, by repeat (first | exact qDr _ | apply qDs)⟩
       ·rw [if_neg c10] at H
        have c10b0 : ((rd l0 x1_1) == 1) = false := beq_eq_false_iff_ne.mpr c10
        have c10b1 : ((rd l0 x1_1) != 1) = true := bne_iff_ne.mpr c10
        obtain rfl := qoI H
        go_wp2_with (first | ((with_reducible refine gate_callee (f := 267) rfl ?_); refine goesL_ (some 16) rfl rfl Tryz.func267 (by kernel_rfl) rfl #[.slice A0 l0.length c0, .int .i64 x1_1] rfl (by (try simp only [lm0, lm1, lm2]); first | done | rfl | (simp only [lm3, lm4]; rfl)) ?_; (with_reducible refine (join_there.calls _ _ l0 x1_1 true _ ?side1 ?side2 A6.out).mono ?_); (case side1 => exact HR0.out); (case side2 => exact HC0.out); rintro e w' ⟨rfl, ⟨nd, rfl⟩⟩; refine ⟨_, rfl, ?_⟩; have p113 : 0 ≤ (x1_1 : Int) := qoD (by assumption); have q113 : x1_1 < (l0.length : Int) := qoD (by assumption); obtain ⟨ad113, e113, hx113_0⟩ := Kd.at_int HR0.out x1_1 p113 q113; cases e113; replace p113 := eq_true p113; replace q113 := eq_true q113))
        go_ret
        exact ⟨by first | rfl | (simp; done) | (simp [*]; done), by repeat (first | exact qDr _ | apply qDs)⟩
      ·rw [if_neg c9] at H
       exact absurd H (by simp)
     ·rw [if_neg c8] at H
      exact absurd H (by simp)
    ·replace c7 := qbE.mpr c7
     subst c7
     rw [if_neg (show ¬ (false = true) by decide)] at H
     obtain rfl := qoI H
     go_wp2_with (first | ((with_reducible refine gate_callee (f := 267) rfl ?_); refine goesL_ (some 16) rfl rfl Tryz.func267 (by kernel_rfl) rfl #[.slice A0 l0.length c0, .int .i64 x1_1] rfl (by (try simp only [lm0, lm1, lm2]); first | done | rfl | (simp only [lm3, lm4]; rfl)) ?_; (with_reducible refine (join_there.calls _ _ l0 x1_1 false _ ?side1 ?side2 A6.out).mono ?_); (case side1 => exact HR0.out); (case side2 => exact HC0.out); rintro e w' ⟨rfl, ⟨nd, rfl⟩⟩; refine ⟨_, rfl, ?_⟩))
     go_ret
     exact ⟨by first | rfl | (simp; done) | (simp [*]; done), by repeat (first | exact qDr _ | apply qDs)⟩
 ·replace c5 := qbE.mpr c5
  subst c5
  rw [if_neg (show ¬ (false = true) by decide)] at H
  obtain rfl := qoI H
  go_enter Tryz.func237, Tryz.ntmps237
  go_wp2_with (first | ((with_reducible refine gate_callee (f := 267) rfl ?_); refine goesL_ (some 9) rfl rfl Tryz.func267 (by kernel_rfl) rfl #[.slice A0 l0.length c0, .int .i64 a1] rfl (by (try simp only [lm0, lm1, lm2]); first | done | rfl | (simp only [lm3, lm4]; rfl)) ?_; (with_reducible refine (join_there.calls _ _ l0 a1 false _ ?side1 ?side2 A4.out).mono ?_); (case side1 => exact HR0.out); (case side2 => exact HC0.out); rintro e w' ⟨rfl, ⟨nd, rfl⟩⟩; refine ⟨_, rfl, ?_⟩))
  go_ret
  exact ⟨by first | rfl | (simp; done) | (simp [*]; done), by repeat (first | exact qDr _ | apply qDs)⟩
def api_Ligatures.f  : Option ((List (S95))) := some (([(⟨1570, 65269, 65270⟩ : S95), (⟨1571, 65271, 65272⟩ : S95), (⟨1573, 65273, 65274⟩ : S95), (⟨1575, 65275, 65276⟩ : S95)] : List (S95)))
theorem api_Ligatures.calls  (r : List (S95)) (w : World) (h : api_Ligatures.f  = some r) :
 Calls Tryz.prog 70 #[] w fun e w' => ∃ v0_ : Value, e = .returned (v0_) ∧ Kd.R k95 95 w' w.heap.size (fun _ => True) v0_ r ∧ Below w.heap.size w w' := by
 have hu95 := Tryz.underlying95
 have HB := aMk (qBr w.heap.size w)
 have H : (some (([(⟨1570, 65269, 65270⟩ : S95), (⟨1571, 65271, 65272⟩ : S95), (⟨1573, 65273, 65274⟩ : S95), (⟨1575, 65275, 65276⟩ : S95)] : List (S95)))) = some r := h
 clear h
 obtain ⟨y120, hy120⟩ : ∃ y_ : List (S95), y_ = (([(⟨1570, 65269, 65270⟩ : S95), (⟨1571, 65271, 65272⟩ : S95), (⟨1573, 65273, 65274⟩ : S95), (⟨1575, 65275, 65276⟩ : S95)] : List (S95))) := ⟨_, rfl⟩
 replace H : (some y120) = some r := by first | (rw [hy120]; with_reducible exact H) | (have H2_ := (qoS _ _).symm.trans H; rw [hy120]; with_reducible exact H2_) | (have H2_ := (qoS _ _).symm.trans H; with_reducible exact H2_) | with_reducible exact H | (rw [hy120]; exact H) | exact H
 have Ny120 := aMk hy120; clear hy120
 obtain rfl := qoI H
 go_enter Tryz.func70, Tryz.ntmps70
 go_wp2_with (first | ((with_reducible refine gate_dst (N := 5) rfl ?_); refine Kd.R_lit k95 _ 95 ?hg (N := 5) ?hd (xs := ([(⟨1570, 65269, 65270⟩ : S95), (⟨1571, 65271, 65272⟩ : S95), (⟨1573, 65273, 65274⟩ : S95), (⟨1575, 65275, 65276⟩ : S95)] : List (S95))) (inner := [.int .i64 1570, .int .i64 65269, .int .i64 65270, .int .i64 1571, .int .i64 65271, .int .i64 65272, .int .i64 1573, .int .i64 65273, .int .i64 65274, .int .i64 1575, .int .i64 65275, .int .i64 65276]) (ok := fun _ => True) (okp := fun _ => True) ?hr ?hp (fun _ hk => hk) trivial (qBr _ _) (qlR _) (by simp) ?_; (case hd => rfl); (case hg => rfl); (case hr => go_simp; done); (case hp => exact (Reps.c3 (show Kd.M k95 _ _ _ (⟨1570, 65269, 65270⟩ : S95) [.int .i64 1570, .int .i64 65269, .int .i64 65270] from (k95_mkM _ _ _ (⟨1570, 65269, 65270⟩ : S95) )) (Reps.c3 (show Kd.M k95 _ _ _ (⟨1571, 65271, 65272⟩ : S95) [.int .i64 1571, .int .i64 65271, .int .i64 65272] from (k95_mkM _ _ _ (⟨1571, 65271, 65272⟩ : S95) )) (Reps.c3 (show Kd.M k95 _ _ _ (⟨1573, 65273, 65274⟩ : S95) [.int .i64 1573, .int .i64 65273, .int .i64 65274] from (k95_mkM _ _ _ (⟨1573, 65273, 65274⟩ : S95) )) (Reps.c3 (show Kd.M k95 _ _ _ (⟨1575, 65275, 65276⟩ : S95) [.int .i64 1575, .int .i64 65275, .int .i64 65276] from (k95_mkM _ _ _ (⟨1575, 65275, 65276⟩ : S95) )) (Reps.none _ _)))))); intro v121 w1 ho2 hb hg_ hnew_; clear hg_ hnew_; (first | rw [← Ny120.out] at ho2 | (simp only [Int.reduceToNat] at ho2; rw [← Ny120.out] at ho2)); have n0_ := aMk (Kd.R_lower ho2 (qbZ HB.out)); have n1_ := aMk (qbP HB.out hb); clear HB; have HO122 := n0_; have HB := n1_; clear n0_ n1_; clear hb ho2))
 go_ret
 exact ⟨_, rfl, by (with_reducible repeat (first | apply qrA | apply qrN | apply qrD)); exact HO122.out, by repeat (first | (with_reducible first | exact HB.out | apply qbA | apply qbN | apply qb1) | exact HB.out)⟩
def forms_alef.l0 : Nat → Int → List (S95) → Int → Int → Option (Int × Int × Int × Bool)
 | 0, _, _, _, _ => none
 | k + 1, x0, x6, x7, x8 => if x8 < x7 then (if 0 ≤ x8 then (if x8 < (x6.length : Int) then (if ((rd_T95 x6 x8).f0) = x0 then (some ((rd_T95 x6 x8).f0, (rd_T95 x6 x8).f1, (rd_T95 x6 x8).f2, true)) else (forms_alef.l0 k x0 x6 x7 (wrap64 (x8 + 1)))) else (none)) else (none)) else (some (0, 0, 0, false))
def forms_alef.f (k : Nat) (a0 : Int) : Option (Int × Int × Int × Bool) := (api_Ligatures.f).bind fun t124 => (forms_alef.l0 k a0 t124 (t124.length : Int) 0)
theorem forms_alef.calls (k : Nat) (a0 : Int) (r1 : Int) (r2 : Int) (r3 : Int) (r4 : Bool) (w : World) (h : forms_alef.f k a0 = some (r1, r2, r3, r4)) :
 Calls Tryz.prog 269 #[.int .i64 a0] w fun e w' => e = .returned (.tuple #[.agg #[.int .i64 r1, .int .i64 r2, .int .i64 r3], .bool r4]) ∧ Below w.heap.size w w' := by
 have hu95 := Tryz.underlying95
 have HB := aMk (qBr w.heap.size w)
 have H : ((api_Ligatures.f).bind fun t124 => (forms_alef.l0 k a0 t124 (t124.length : Int) 0)) = some (r1, r2, r3, r4) := h
 clear h
 replace H := qoB.mp H
 obtain ⟨t124, A20, H⟩ := H
 try dsimp only at H
 have A2 := aMk A20; clear A20
 have H' := aMk H
 clear H
 go_enter Tryz.func269, Tryz.ntmps269
 go_wp2_with (first | ((with_reducible refine gate_dst (N := 2) rfl ?_); refine box_event ?hg (N := 2) ?hd (cs := #[.int .i64 0, .int .i64 0, .int .i64 0]) (t := 95) ?hr ?_; (case hd => rfl); (case hg => rfl); (case hr => go_simp; done); intro gb123 hg w3 hbox hb; have n0_ := aMk (qbP HB.out hb); have n1_ := aMk (hbox); have n2_ := aMk ((by rw [hg]; exact (qbZ HB.out) : w.heap.size ≤ gb123)); have n3_ := aMk ((by rw [hg]; exact (qbZ HB.out) : w.heap.size ≤ gb123)); clear HB; have HB := n0_; have BK123 := n1_; have GW123 := n2_; have GE123 := n3_; clear n0_ n1_ n2_ n3_; clear hb hbox hg) | ((with_reducible refine gate_callee (f := 70) rfl ?_); refine goesL_ (some 6) rfl rfl Tryz.func70 (by kernel_rfl) rfl #[] rfl (by (try simp only [lm0, lm1, lm2]); first | done | rfl | (simp only [lm3, lm4]; rfl)) ?_; (with_reducible refine (api_Ligatures.calls  t124 _ A2.out).mono ?_); rintro e w4 ⟨v125, rfl, ho0, hb⟩; refine ⟨_, rfl, ?_⟩; have n0_ := aMk (Kd.R_lower (Kd.R_newB ho0 (g := gb123) (o := .cells #[.int .i64 0, .int .i64 0, .int .i64 0] 95 (0, 0)) (by exact BK123.out)) (qbZ HB.out)); have n1_ := aMk (blk_below (g := gb123) (o := .cells #[.int .i64 0, .int .i64 0, .int .i64 0] 95 (0, 0)) (by exact BK123.out) hb); have n2_ := aMk (qbP HB.out hb); clear BK123; clear HB; have HO126 := n0_; have BK123 := n1_; have HB := n2_; clear n0_ n1_ n2_; obtain ⟨Ao5, co5, eo5⟩ := Kd.R_slice HO126.out; subst eo5))
 go_loopg [8] k (fun kq v8 w' => ∃ (x8_1 : Int) (x124000_1 : Int) (x124001_1 : Int) (x124002_1 : Int), v8 = .int .i64 x8_1 ∧ Aside0 (forms_alef.l0 kq a0 t124 (t124.length : Int) x8_1 = some (r1, r2, r3, r4)) ∧ Aside0 (kq ≤ k) ∧ Aside0 (Kd.R k95 95 w' w.heap.size (fun k_ => k_ ≠ gb123) (.slice Ao5 t124.length co5) t124) ∧ Aside0 (w'.heap[gb123]? = some (.cells #[.int .i64 x124000_1, .int .i64 x124001_1, .int .i64 x124002_1] 95 (0, 0))) ∧ Aside0 (Below w.heap.size w w'))
 case atStart => exact ⟨(0), (0), (0), (0), rfl, H', ⟨qlR _⟩, ⟨by (with_reducible repeat (first | apply qrA | apply qrN | apply qrD)); exact qrM HO126.out (fun _ hk => hk.2)⟩, ⟨by exact BK123.out⟩, ⟨by repeat (first | (with_reducible first | exact HB.out | apply qbA | apply qbN | apply qb1 | refine qbS ?_ GE123.out) | exact HB.out)⟩⟩
 case round =>
  clear H'
  obtain ⟨x8_1, x124000_1, x124001_1, x124002_1, rfl, HA, HK1, HO_6, BK123, HB⟩ := hrel
  cases gk with
  | zero => exact absurd HA.out (by simp [forms_alef.l0])
  | succ k1 =>
   have H := HA.out
   clear HA
   simp only [forms_alef.l0] at H
   by_cases c6 : x8_1 < (t124.length : Int)
   ·rw [if_pos c6] at H
    have c6b0 := qdT c6
    clear c6
    by_cases c7 : 0 ≤ x8_1
    ·rw [if_pos c7] at H
     have c7b0 := qdT c7
     clear c7
     by_cases c8 : x8_1 < (t124.length : Int)
     ·rw [if_pos c8] at H
      have c8b0 := qdT c8
      clear c8
      by_cases c9 : ((rd_T95 t124 x8_1).f0) = a0
      ·rw [if_pos c9] at H
       have c9b0 : (((rd_T95 t124 x8_1).f0) == a0) = true := beq_iff_eq.mpr c9
       have c9b1 : (((rd_T95 t124 x8_1).f0) != a0) = false := bne_eq_false_iff_eq.mpr c9
       clear c9
       simp only [Option.some.injEq, Prod.mk.injEq] at H
       obtain ⟨rfl, rfl, rfl, rfl⟩ := H
       have p127 : 0 ≤ (x8_1 : Int) := qoD (by assumption)
       have q127 : x8_1 < (t124.length : Int) := qoD (by assumption)
       obtain ⟨ad127, e127, hx127_0, hx127_1, hx127_2⟩ := at_T95 (Kd.R_reads' HO_6.out).2.2 x8_1 p127 q127
       cases e127
       replace p127 := eq_true p127
       replace q127 := eq_true q127
       go_wp2_with (first | ((with_reducible refine gate_dst (N := 5) rfl ?_); refine box_event ?hg (N := 5) ?hd (cs := #[.int .i64 0, .int .i64 0, .int .i64 0]) (t := 95) ?hr ?_; (case hd => rfl); (case hg => rfl); (case hr => go_simp; done); intro gb128 hg w10 hbox hb; have n0_ := aMk (qrB (Kd.R_elderB HO_6.out gb128 (Nat.le_of_eq hg.symm)) hb); have n1_ := aMk (blk_below (g := gb123) (o := .cells #[.int .i64 x124000_1, .int .i64 x124001_1, .int .i64 x124002_1] 95 (0, 0)) (by exact BK123.out) hb); have n2_ := aMk (qbP HB.out hb); have n3_ := aMk (hbox); have n4_ := aMk ((by rw [hg]; exact (qbZ HB.out) : w.heap.size ≤ gb128)); have n5_ := aMk ((by rw [hg]; exact (qbZ HB.out) : w.heap.size ≤ gb128)); have n6_ := aMk ((by rw [hg]; exact Nat.ne_of_lt (blk_lt (g := gb123) (o := .cells #[.int .i64 x124000_1, .int .i64 x124001_1, .int .i64 x124002_1] 95 (0, 0)) (by exact BK123.out)) : gb123 ≠ gb128)); have n7_ := aMk ((by rw [hg]; exact Nat.ne_of_gt (blk_lt (g := gb123) (o := .cells #[.int .i64 x124000_1, .int .i64 x124001_1, .int .i64 x124002_1] 95 (0, 0)) (by exact BK123.out)) : gb128 ≠ gb123)); clear HO_6; clear BK123; clear HB; have HO_6 := n0_; have BK123 := n1_; have HB := n2_; have BK128 := n3_; have GW128 := n4_; have GE128 := n5_; have NB123_128 := n6_; have NB128_123 := n7_; clear n0_ n1_ n2_ n3_ n4_ n5_ n6_ n7_; clear hb hbox hg; have hnb11 := NB128_123.out; have hnc11 := NB123_128.out; have hcz12_0 : w10.cell? ⟨gb128, 0, none⟩ = some (.int .i64 0) := (blk_cell BK128.out 0).trans rfl; have hcz12_1 : w10.cell? ⟨gb128, 1, none⟩ = some (.int .i64 0) := (blk_cell BK128.out 1).trans rfl; have hcz12_2 : w10.cell? ⟨gb128, 2, none⟩ = some (.int .i64 0) := (blk_cell BK128.out 2).trans rfl; have hfz12_0 := qbF BK128.out 0; have hfz12_1 := qbF BK128.out 1; have hfz12_2 := qbF BK128.out 2; have hcz13_0 : w10.cell? ⟨gb123, 0, none⟩ = some (.int .i64 x124000_1) := (blk_cell BK123.out 0).trans rfl; have hcz13_1 : w10.cell? ⟨gb123, 1, none⟩ = some (.int .i64 x124001_1) := (blk_cell BK123.out 1).trans rfl; have hcz13_2 : w10.cell? ⟨gb123, 2, none⟩ = some (.int .i64 x124002_1) := (blk_cell BK123.out 2).trans rfl; have hfz13_0 := qbF BK123.out 0; have hfz13_1 := qbF BK123.out 1; have hfz13_2 := qbF BK123.out 2))
       refine bodyPost_ret (results_ct rfl _ _ gb123 95 #[.int .i64 ((rd_T95 t124 x8_1).f0), .int .i64 ((rd_T95 t124 x8_1).f1), .int .i64 ((rd_T95 t124 x8_1).f2)] (0, 0) _ rfl (by refine blk_put (cs := #[.int .i64 ((rd_T95 t124 x8_1).f0), .int .i64 ((rd_T95 t124 x8_1).f1), .int .i64 x124002_1]) ?_ 2 _ rfl; refine blk_put (cs := #[.int .i64 ((rd_T95 t124 x8_1).f0), .int .i64 x124001_1, .int .i64 x124002_1]) ?_ 1 _ rfl; refine blk_put (cs := #[.int .i64 x124000_1, .int .i64 x124001_1, .int .i64 x124002_1]) ?_ 0 _ rfl; refine blk_far ?_ NB123_128.out _; refine blk_far ?_ NB123_128.out _; refine blk_far ?_ NB123_128.out _; exact BK123.out) Tryz.underlying95 rfl (by kernel_rfl)) rfl ?_
       exact ⟨rfl, by repeat (first | (with_reducible first | exact HB.out | apply qbA | apply qbN | apply qb1 | refine qbS ?_ GE123.out | refine qbS ?_ GE128.out) | exact HB.out)⟩
      ·rw [if_neg c9] at H
       have c9b0 : (((rd_T95 t124 x8_1).f0) == a0) = false := beq_eq_false_iff_ne.mpr c9
       have c9b1 : (((rd_T95 t124 x8_1).f0) != a0) = true := bne_iff_ne.mpr c9
       have H' := aMk H
       clear H
       have p127 : 0 ≤ (x8_1 : Int) := qoD (by assumption)
       have q127 : x8_1 < (t124.length : Int) := qoD (by assumption)
       obtain ⟨ad127, e127, hx127_0, hx127_1, hx127_2⟩ := at_T95 (Kd.R_reads' HO_6.out).2.2 x8_1 p127 q127
       cases e127
       replace p127 := eq_true p127
       replace q127 := eq_true q127
       go_wp2_with (first | ((with_reducible refine gate_dst (N := 5) rfl ?_); refine box_event ?hg (N := 5) ?hd (cs := #[.int .i64 0, .int .i64 0, .int .i64 0]) (t := 95) ?hr ?_; (case hd => rfl); (case hg => rfl); (case hr => go_simp; done); intro gb128 hg w14 hbox hb; have n0_ := aMk (qrB (Kd.R_elderB HO_6.out gb128 (Nat.le_of_eq hg.symm)) hb); have n1_ := aMk (blk_below (g := gb123) (o := .cells #[.int .i64 x124000_1, .int .i64 x124001_1, .int .i64 x124002_1] 95 (0, 0)) (by exact BK123.out) hb); have n2_ := aMk (qbP HB.out hb); have n3_ := aMk (hbox); have n4_ := aMk ((by rw [hg]; exact (qbZ HB.out) : w.heap.size ≤ gb128)); have n5_ := aMk ((by rw [hg]; exact (qbZ HB.out) : w.heap.size ≤ gb128)); have n6_ := aMk ((by rw [hg]; exact Nat.ne_of_lt (blk_lt (g := gb123) (o := .cells #[.int .i64 x124000_1, .int .i64 x124001_1, .int .i64 x124002_1] 95 (0, 0)) (by exact BK123.out)) : gb123 ≠ gb128)); have n7_ := aMk ((by rw [hg]; exact Nat.ne_of_gt (blk_lt (g := gb123) (o := .cells #[.int .i64 x124000_1, .int .i64 x124001_1, .int .i64 x124002_1] 95 (0, 0)) (by exact BK123.out)) : gb128 ≠ gb123)); clear HO_6; clear BK123; clear HB; have HO_6 := n0_; have BK123 := n1_; have HB := n2_; have BK128 := n3_; have GW128 := n4_; have GE128 := n5_; have NB123_128 := n6_; have NB128_123 := n7_; clear n0_ n1_ n2_ n3_ n4_ n5_ n6_ n7_; clear hb hbox hg; have hnb15 := NB128_123.out; have hnc15 := NB123_128.out; have hcz16_0 : w14.cell? ⟨gb128, 0, none⟩ = some (.int .i64 0) := (blk_cell BK128.out 0).trans rfl; have hcz16_1 : w14.cell? ⟨gb128, 1, none⟩ = some (.int .i64 0) := (blk_cell BK128.out 1).trans rfl; have hcz16_2 : w14.cell? ⟨gb128, 2, none⟩ = some (.int .i64 0) := (blk_cell BK128.out 2).trans rfl; have hfz16_0 := qbF BK128.out 0; have hfz16_1 := qbF BK128.out 1; have hfz16_2 := qbF BK128.out 2))
       go_roundg k1
       case measure => have := HK1.out; omega
       case rel => exact ⟨(wrap64 (x8_1 + 1)), (x124000_1), (x124001_1), (x124002_1), rfl, H', ⟨by have := HK1.out; omega⟩, ⟨by (with_reducible repeat (first | apply qrA | apply qrN | apply qrD)); exact qrM (Kd.R_far (p := ⟨gb128, 2, none⟩) (Kd.R_far (p := ⟨gb128, 1, none⟩) (Kd.R_far (p := ⟨gb128, 0, none⟩) (qrM HO_6.out (fun k_ hk => (⟨hk, hk.2⟩ : _ ∧ k_ ≠ gb128))) (fun _ hk => hk.2) (.int .i64 ((rd_T95 t124 x8_1).f0))) (fun _ hk => hk.2) (.int .i64 ((rd_T95 t124 x8_1).f1))) (fun _ hk => hk.2) (.int .i64 ((rd_T95 t124 x8_1).f2))) (fun _ hk => hk.1.1)⟩, ⟨by refine blk_far ?_ NB123_128.out _; refine blk_far ?_ NB123_128.out _; refine blk_far ?_ NB123_128.out _; exact BK123.out⟩, ⟨by repeat (first | (with_reducible first | exact HB.out | apply qbA | apply qbN | apply qb1 | refine qbS ?_ GE123.out | refine qbS ?_ GE128.out) | exact HB.out)⟩⟩
     ·rw [if_neg c8] at H
      exact absurd H (by simp)
    ·rw [if_neg c7] at H
     exact absurd H (by simp)
   ·rw [if_neg c6] at H
    have c6b0 := qdF c6
    clear c6
    simp only [Option.some.injEq, Prod.mk.injEq] at H
    obtain ⟨rfl, rfl, rfl, rfl⟩ := H
    have hcz17_0 : wr.cell? ⟨gb123, 0, none⟩ = some (.int .i64 x124000_1) := (blk_cell BK123.out 0).trans rfl
    have hcz17_1 : wr.cell? ⟨gb123, 1, none⟩ = some (.int .i64 x124001_1) := (blk_cell BK123.out 1).trans rfl
    have hcz17_2 : wr.cell? ⟨gb123, 2, none⟩ = some (.int .i64 x124002_1) := (blk_cell BK123.out 2).trans rfl
    have hfz17_0 := qbF BK123.out 0
    have hfz17_1 := qbF BK123.out 1
    have hfz17_2 := qbF BK123.out 2
    go_wp2
    refine bodyPost_ret (results_ct rfl _ _ gb123 95 #[.int .i64 0, .int .i64 0, .int .i64 0] (0, 0) _ rfl (by refine blk_put (cs := #[.int .i64 0, .int .i64 0, .int .i64 x124002_1]) ?_ 2 _ rfl; refine blk_put (cs := #[.int .i64 0, .int .i64 x124001_1, .int .i64 x124002_1]) ?_ 1 _ rfl; refine blk_put (cs := #[.int .i64 x124000_1, .int .i64 x124001_1, .int .i64 x124002_1]) ?_ 0 _ rfl; exact BK123.out) Tryz.underlying95 rfl (by kernel_rfl)) rfl ?_
    exact ⟨rfl, by repeat (first | (with_reducible first | exact HB.out | apply qbA | apply qbN | apply qb1 | refine qbS ?_ GE123.out) | exact HB.out)⟩
end PKashidaStretches
end
section
namespace PKashidaStretches

attribute [local go_sem] max2_int min2_int max_two min_two max_three min_three max_four min_four
def forms_Ligate.f (k : Nat) (a0 : Int) (a1 : Int) : Option (Int × Bool) := (forms_alef.f k a0).bind fun bt129 => (if bt129.2.2.2 = true then (if a1 = 1 then (some (bt129.2.1, true)) else (if a1 = 2 then (some (bt129.2.2.1, true)) else (some (0, false)))) else (some (0, false)))
theorem forms_Ligate.calls (k : Nat) (a0 : Int) (a1 : Int) (r1 : Int) (r2 : Bool) (w : World) (h : forms_Ligate.f k a0 a1 = some (r1, r2)) :
 Calls Tryz.prog 227 #[.int .i64 a0, .int .i64 a1] w fun e w' => e = .returned (.tuple #[.int .i64 r1, .bool r2]) ∧ Below w.heap.size w w' := by
 have hu95 := Tryz.underlying95
 have HB := aMk (qBr w.heap.size w)
 have H : ((forms_alef.f k a0).bind fun bt129 => (if bt129.2.2.2 = true then (if a1 = 1 then (some (bt129.2.1, true)) else (if a1 = 2 then (some (bt129.2.2.1, true)) else (some (0, false)))) else (some (0, false)))) = some (r1, r2) := h
 clear h
 replace H := qoB.mp H
 obtain ⟨⟨t129, t130, t131, t132⟩, A30, H⟩ := H
 try dsimp only at H
 have A3 := aMk A30; clear A30
 by_cases c4 : t132 = true
 ·subst c4
  rw [if_pos rfl] at H
  by_cases c5 : a1 = 1
  ·rw [if_pos c5] at H
   have c5b0 : (a1 == 1) = true := beq_iff_eq.mpr c5
   have c5b1 : (a1 != 1) = false := bne_eq_false_iff_eq.mpr c5
   clear c5
   simp only [Option.some.injEq, Prod.mk.injEq] at H
   obtain ⟨rfl, rfl⟩ := H
   go_enter Tryz.func227, Tryz.ntmps227
   go_wp2_with (first | ((with_reducible refine gate_callee (f := 269) rfl ?_); refine goesL_ (some 10) rfl rfl Tryz.func269 (by kernel_rfl) rfl #[.int .i64 a0] rfl (by (try simp only [lm0, lm1, lm2]); first | done | rfl | (simp only [lm3, lm4]; rfl)) ?_; (with_reducible refine (forms_alef.calls k a0 t129 t130 t131 true _ A3.out).mono ?_); rintro e w6 ⟨rfl, hb⟩; refine ⟨_, rfl, ?_⟩; have n0_ := aMk (qbP HB.out hb); clear HB; have HB := n0_; clear n0_; (try clear hi)) | ((with_reducible refine gate_dst (N := 6) rfl ?_); refine box_event ?hg (N := 6) ?hd (cs := #[.int .i64 0, .int .i64 0, .int .i64 0]) (t := 95) ?hr ?_; (case hd => rfl); (case hg => rfl); (case hr => go_simp; done); intro gb133 hg w7 hbox hb; have n0_ := aMk (qbP HB.out hb); have n1_ := aMk (hbox); have n2_ := aMk ((by rw [hg]; exact (qbZ HB.out) : w.heap.size ≤ gb133)); have n3_ := aMk ((by rw [hg]; exact (qbZ HB.out) : w.heap.size ≤ gb133)); clear HB; have HB := n0_; have BK133 := n1_; have GW133 := n2_; have GE133 := n3_; clear n0_ n1_ n2_ n3_; clear hb hbox hg; have hcz8_0 : w7.cell? ⟨gb133, 0, none⟩ = some (.int .i64 0) := (blk_cell BK133.out 0).trans rfl; have hcz8_1 : w7.cell? ⟨gb133, 1, none⟩ = some (.int .i64 0) := (blk_cell BK133.out 1).trans rfl; have hcz8_2 : w7.cell? ⟨gb133, 2, none⟩ = some (.int .i64 0) := (blk_cell BK133.out 2).trans rfl; have hfz8_0 := qbF BK133.out 0; have hfz8_1 := qbF BK133.out 1; have hfz8_2 := qbF BK133.out 2))
   go_ret2
   exact ⟨rfl, by repeat (first | (with_reducible first | exact HB.out | apply qbA | apply qbN | apply qb1 | refine qbS ?_ GE133.out) | exact HB.out)⟩
  ·rw [if_neg c5] at H
   have c5b0 : (a1 == 1) = false := beq_eq_false_iff_ne.mpr c5
   have c5b1 : (a1 != 1) = true := bne_iff_ne.mpr c5
   by_cases c9 : a1 = 2
   ·rw [if_pos c9] at H
    have c9b0 : (a1 == 2) = true := beq_iff_eq.mpr c9
    have c9b1 : (a1 != 2) = false := bne_eq_false_iff_eq.mpr c9
    clear c9
    simp only [Option.some.injEq, Prod.mk.injEq] at H
    obtain ⟨rfl, rfl⟩ := H
    go_enter Tryz.func227, Tryz.ntmps227
    go_wp2_with (first | ((with_reducible refine gate_callee (f := 269) rfl ?_); refine goesL_ (some 10) rfl rfl Tryz.func269 (by kernel_rfl) rfl #[.int .i64 a0] rfl (by (try simp only [lm0, lm1, lm2]); first | done | rfl | (simp only [lm3, lm4]; rfl)) ?_; (with_reducible refine (forms_alef.calls k a0 t129 t130 t131 true _ A3.out).mono ?_); rintro e w10 ⟨rfl, hb⟩; refine ⟨_, rfl, ?_⟩; have n0_ := aMk (qbP HB.out hb); clear HB; have HB := n0_; clear n0_; (try clear hi)) | ((with_reducible refine gate_dst (N := 6) rfl ?_); refine box_event ?hg (N := 6) ?hd (cs := #[.int .i64 0, .int .i64 0, .int .i64 0]) (t := 95) ?hr ?_; (case hd => rfl); (case hg => rfl); (case hr => go_simp; done); intro gb133 hg w11 hbox hb; have n0_ := aMk (qbP HB.out hb); have n1_ := aMk (hbox); have n2_ := aMk ((by rw [hg]; exact (qbZ HB.out) : w.heap.size ≤ gb133)); have n3_ := aMk ((by rw [hg]; exact (qbZ HB.out) : w.heap.size ≤ gb133)); clear HB; have HB := n0_; have BK133 := n1_; have GW133 := n2_; have GE133 := n3_; clear n0_ n1_ n2_ n3_; clear hb hbox hg; have hcz12_0 : w11.cell? ⟨gb133, 0, none⟩ = some (.int .i64 0) := (blk_cell BK133.out 0).trans rfl; have hcz12_1 : w11.cell? ⟨gb133, 1, none⟩ = some (.int .i64 0) := (blk_cell BK133.out 1).trans rfl; have hcz12_2 : w11.cell? ⟨gb133, 2, none⟩ = some (.int .i64 0) := (blk_cell BK133.out 2).trans rfl; have hfz12_0 := qbF BK133.out 0; have hfz12_1 := qbF BK133.out 1; have hfz12_2 := qbF BK133.out 2))
    go_ret2
    exact ⟨rfl, by repeat (first | (with_reducible first | exact HB.out | apply qbA | apply qbN | apply qb1 | refine qbS ?_ GE133.out) | exact HB.out)⟩
   ·rw [if_neg c9] at H
    have c9b0 : (a1 == 2) = false := beq_eq_false_iff_ne.mpr c9
    have c9b1 : (a1 != 2) = true := bne_iff_ne.mpr c9
    simp only [Option.some.injEq, Prod.mk.injEq] at H
    obtain ⟨rfl, rfl⟩ := H
    go_enter Tryz.func227, Tryz.ntmps227
    go_wp2_with (first | ((with_reducible refine gate_callee (f := 269) rfl ?_); refine goesL_ (some 10) rfl rfl Tryz.func269 (by kernel_rfl) rfl #[.int .i64 a0] rfl (by (try simp only [lm0, lm1, lm2]); first | done | rfl | (simp only [lm3, lm4]; rfl)) ?_; (with_reducible refine (forms_alef.calls k a0 t129 t130 t131 true _ A3.out).mono ?_); rintro e w13 ⟨rfl, hb⟩; refine ⟨_, rfl, ?_⟩; have n0_ := aMk (qbP HB.out hb); clear HB; have HB := n0_; clear n0_; (try clear hi)) | ((with_reducible refine gate_dst (N := 6) rfl ?_); refine box_event ?hg (N := 6) ?hd (cs := #[.int .i64 0, .int .i64 0, .int .i64 0]) (t := 95) ?hr ?_; (case hd => rfl); (case hg => rfl); (case hr => go_simp; done); intro gb133 hg w14 hbox hb; have n0_ := aMk (qbP HB.out hb); have n1_ := aMk (hbox); have n2_ := aMk ((by rw [hg]; exact (qbZ HB.out) : w.heap.size ≤ gb133)); have n3_ := aMk ((by rw [hg]; exact (qbZ HB.out) : w.heap.size ≤ gb133)); clear HB; have HB := n0_; have BK133 := n1_; have GW133 := n2_; have GE133 := n3_; clear n0_ n1_ n2_ n3_; clear hb hbox hg; have hcz15_0 : w14.cell? ⟨gb133, 0, none⟩ = some (.int .i64 0) := (blk_cell BK133.out 0).trans rfl; have hcz15_1 : w14.cell? ⟨gb133, 1, none⟩ = some (.int .i64 0) := (blk_cell BK133.out 1).trans rfl; have hcz15_2 : w14.cell? ⟨gb133, 2, none⟩ = some (.int .i64 0) := (blk_cell BK133.out 2).trans rfl; have hfz15_0 := qbF BK133.out 0; have hfz15_1 := qbF BK133.out 1; have hfz15_2 := qbF BK133.out 2))
    go_ret2
    exact ⟨rfl, by repeat (first | (with_reducible first | exact HB.out | apply qbA | apply qbN | apply qb1 | refine qbS ?_ GE133.out) | exact HB.out)⟩
 ·replace c4 := qbE.mpr c4
  subst c4
  rw [if_neg (show ¬ (false = true) by decide)] at H
  simp only [Option.some.injEq, Prod.mk.injEq] at H
  obtain ⟨rfl, rfl⟩ := H
  go_enter Tryz.func227, Tryz.ntmps227
  go_wp2_with (first | ((with_reducible refine gate_callee (f := 269) rfl ?_); refine goesL_ (some 10) rfl rfl Tryz.func269 (by kernel_rfl) rfl #[.int .i64 a0] rfl (by (try simp only [lm0, lm1, lm2]); first | done | rfl | (simp only [lm3, lm4]; rfl)) ?_; (with_reducible refine (forms_alef.calls k a0 t129 t130 t131 false _ A3.out).mono ?_); rintro e w16 ⟨rfl, hb⟩; refine ⟨_, rfl, ?_⟩; have n0_ := aMk (qbP HB.out hb); clear HB; have HB := n0_; clear n0_; (try clear hi)) | ((with_reducible refine gate_dst (N := 6) rfl ?_); refine box_event ?hg (N := 6) ?hd (cs := #[.int .i64 0, .int .i64 0, .int .i64 0]) (t := 95) ?hr ?_; (case hd => rfl); (case hg => rfl); (case hr => go_simp; done); intro gb133 hg w17 hbox hb; have n0_ := aMk (qbP HB.out hb); have n1_ := aMk (hbox); have n2_ := aMk ((by rw [hg]; exact (qbZ HB.out) : w.heap.size ≤ gb133)); have n3_ := aMk ((by rw [hg]; exact (qbZ HB.out) : w.heap.size ≤ gb133)); clear HB; have HB := n0_; have BK133 := n1_; have GW133 := n2_; have GE133 := n3_; clear n0_ n1_ n2_ n3_; clear hb hbox hg; have hcz18_0 : w17.cell? ⟨gb133, 0, none⟩ = some (.int .i64 0) := (blk_cell BK133.out 0).trans rfl; have hcz18_1 : w17.cell? ⟨gb133, 1, none⟩ = some (.int .i64 0) := (blk_cell BK133.out 1).trans rfl; have hcz18_2 : w17.cell? ⟨gb133, 2, none⟩ = some (.int .i64 0) := (blk_cell BK133.out 2).trans rfl; have hfz18_0 := qbF BK133.out 0; have hfz18_1 := qbF BK133.out 1; have hfz18_2 := qbF BK133.out 2))
  go_ret2
  exact ⟨rfl, by repeat (first | (with_reducible first | exact HB.out | apply qbA | apply qbN | apply qb1 | refine qbS ?_ GE133.out) | exact HB.out)⟩
def lamalef_Alef.f (k : Nat) (a0 : Int) : Option (Bool) := (forms_Ligate.f k a0 1).bind fun bt134 => (some bt134.2)
theorem lamalef_Alef.calls (k : Nat) (a0 : Int) (r : Bool) (w : World) (h : lamalef_Alef.f k a0 = some r) :
 Calls Tryz.prog 181 #[.int .i64 a0] w fun e w' => e = .returned (.bool r) ∧ Below w.heap.size w w' := by
 have HB := aMk (qBr w.heap.size w)
 have H : ((forms_Ligate.f k a0 1).bind fun bt134 => (some bt134.2)) = some r := h
 clear h
 replace H := qoB.mp H
 obtain ⟨⟨t134, t135⟩, A20, H⟩ := H
 replace H : (some t135) = some r := H
 have A2 := aMk A20; clear A20
 obtain rfl := qoI H
 go_enter Tryz.func181, Tryz.ntmps181
 go_wp2_with (first | ((with_reducible refine gate_callee (f := 227) rfl ?_); refine goesL_ (some 7) rfl rfl Tryz.func227 (by kernel_rfl) rfl #[.int .i64 a0, .int .i64 1] rfl (by (try simp only [lm0, lm1, lm2]); first | done | rfl | (simp only [lm3, lm4]; rfl)) ?_; (with_reducible refine (forms_Ligate.calls k a0 1 t134 t135 _ A2.out).mono ?_); rintro e w3 ⟨rfl, hb⟩; refine ⟨_, rfl, ?_⟩; have n0_ := aMk (qbP (by repeat (first | (with_reducible first | exact HB.out | apply qbA | apply qbN | apply qb1) | exact HB.out)) hb); clear HB; have HB := n0_; clear n0_; (try clear hi)))
 go_ret
 exact ⟨by first | rfl | (simp [errW_none, errW_some] <;> rfl) | (simp [*, errW_none, errW_some] <;> rfl), by repeat (first | (with_reducible first | exact HB.out | apply qbA | apply qbN | apply qb1) | exact HB.out)⟩
def slices_Index_int_int.l0 : Nat → List Int → Int → Int → Int → Option (Int)
 | 0, _, _, _, _ => none
 | k + 1, x0, x1, x7, x8 => if x8 < x7 then (if 0 ≤ x8 then (if x8 < (x0.length : Int) then (if x1 = (rd x0 x8) then (some x8) else (slices_Index_int_int.l0 k x0 x1 x7 (wrap64 (x8 + 1)))) else (none)) else (none)) else (some (-1))
def slices_Index_int_int.f (k : Nat) (l0 : List Int) (a1 : Int) : Option (Int) := slices_Index_int_int.l0 k l0 a1 (l0.length : Int) 0
theorem slices_Index_int_int.calls (k : Nat) (A0 : Option Addr) (c0 : Nat) (l0 : List Int) (a1 : Int) (r : Int) (w : World) (hr0 : Kd.C (Kd.int .i64) w A0 l0.length l0) (hc0 : l0.length ≤ c0) (h : slices_Index_int_int.f k l0 a1 = some r) :
 Calls Tryz.prog 123 #[.slice A0 l0.length c0, .int .i64 a1] w fun e w' => e = .returned (.int .i64 r) ∧ Drawn0 w w' := by
 have HR0 := aMk hr0
 have HC0 := aMk hc0
 clear hr0 hc0
 have H : (slices_Index_int_int.l0 k l0 a1 (l0.length : Int) 0) = some r := h
 clear h
 have H' := aMk H
 clear H
 go_enter Tryz.func123, Tryz.ntmps123
 go_wp2
 go_loopg [8] k (fun kq v8 w' => ∃ (x8_1 : Int), v8 = .int .i64 x8_1 ∧ Aside0 (slices_Index_int_int.l0 kq l0 a1 (l0.length : Int) x8_1 = some r) ∧ Aside0 (kq ≤ k) ∧ Drawn0 w w')
 case atStart => exact ⟨(0), rfl, H', ⟨qlR _⟩, by repeat (first | exact qDr _ | apply qDs)⟩
 case round =>
  clear H'
  obtain ⟨x8_1, rfl, HA, HK1, ⟨m1, rfl⟩⟩ := hrel
  cases gk with
  | zero => exact absurd HA.out (by simp [slices_Index_int_int.l0])
  | succ k1 =>
   have H := HA.out
   clear HA
   simp only [slices_Index_int_int.l0] at H
   by_cases c3 : x8_1 < (l0.length : Int)
   ·rw [if_pos c3] at H
    have c3b0 := qdT c3
    clear c3
    by_cases c4 : 0 ≤ x8_1
    ·rw [if_pos c4] at H
     have c4b0 := qdT c4
     clear c4
     by_cases c5 : x8_1 < (l0.length : Int)
     ·rw [if_pos c5] at H
      have c5b0 := qdT c5
      clear c5
      by_cases c6 : a1 = (rd l0 x8_1)
      ·rw [if_pos c6] at H
       have c6b0 : (a1 == (rd l0 x8_1)) = true := beq_iff_eq.mpr c6
       have c6b1 : (a1 != (rd l0 x8_1)) = false := bne_eq_false_iff_eq.mpr c6
       clear c6
       obtain rfl := qoI H
       have p136 : 0 ≤ (x8_1 : Int) := qoD (by assumption)
       have q136 : x8_1 < (l0.length : Int) := qoD (by assumption)
       obtain ⟨ad136, e136, hx136_0⟩ := Kd.at_int HR0.out x8_1 p136 q136
       cases e136
       replace p136 := eq_true p136
       replace q136 := eq_true q136
       go_wp2
       go_ret
       exact ⟨by first | rfl | (simp; done) | (simp [*]; done), by repeat (first | exact qDr _ | apply qDs)⟩
      ·rw [if_neg c6] at H
       have c6b0 : (a1 == (rd l0 x8_1)) = false := beq_eq_false_iff_ne.mpr c6
       have c6b1 : (a1 != (rd l0 x8_1)) = true := bne_iff_ne.mpr c6
       have H' := aMk H
       clear H
       have p136 : 0 ≤ (x8_1 : Int) := qoD (by assumption)
       have q136 : x8_1 < (l0.length : Int) := qoD (by assumption)
       obtain ⟨ad136, e136, hx136_0⟩ := Kd.at_int HR0.out x8_1 p136 q136
       cases e136
       replace p136 := eq_true p136
       replace q136 := eq_true q136
       go_wp2
       go_roundg k1
       case measure => have := HK1.out; omega
       case rel => exact ⟨(wrap64 (x8_1 + 1)), rfl, H', ⟨by have := HK1.out; omega⟩, by repeat (first | exact qDr _ | apply qDs)⟩
     ·rw [if_neg c5] at H
      exact absurd H (by simp)
    ·rw [if_neg c4] at H
     exact absurd H (by simp)
   ·rw [if_neg c3] at H
    have c3b0 := qdF c3
    clear c3
    obtain rfl := qoI H
    go_wp2
    go_ret
    exact ⟨by first | rfl | (simp; done) | (simp [*]; done), by repeat (first | exact qDr _ | apply qDs)⟩
def slices_Contains_int_int.f (k : Nat) (l0 : List Int) (a1 : Int) : Option (Bool) := (slices_Index_int_int.f k l0 a1).bind fun t137 => (some (decide (t137 ≥ 0)))
theorem slices_Contains_int_int.calls (k : Nat) (A0 : Option Addr) (c0 : Nat) (l0 : List Int) (a1 : Int) (r : Bool) (w : World) (hr0 : Kd.C (Kd.int .i64) w A0 l0.length l0) (hc0 : l0.length ≤ c0) (h : slices_Contains_int_int.f k l0 a1 = some r) :
 Calls Tryz.prog 68 #[.slice A0 l0.length c0, .int .i64 a1] w fun e w' => e = .returned (.bool r) ∧ Drawn0 w w' := by
 have HR0 := aMk hr0
 have HC0 := aMk hc0
 clear hr0 hc0
 have H : ((slices_Index_int_int.f k l0 a1).bind fun t137 => (some (decide (t137 ≥ 0)))) = some r := h
 clear h
 replace H := qoB.mp H
 obtain ⟨t137, A30, H⟩ := H
 try dsimp only at H
 have A3 := aMk A30; clear A30
 obtain rfl := qoI H
 go_enter Tryz.func68, Tryz.ntmps68
 go_wp2_with (first | ((with_reducible refine gate_callee (f := 123) rfl ?_); refine goesL_ (some 7) rfl rfl Tryz.func123 (by kernel_rfl) rfl #[.slice A0 l0.length c0, .int .i64 a1] rfl (by (try simp only [lm0, lm1, lm2]); first | done | rfl | (simp only [lm3, lm4]; rfl)) ?_; (with_reducible refine (slices_Index_int_int.calls k _ _ l0 a1 t137 _ ?side1 ?side2 A3.out).mono ?_); (case side1 => repeat (first | exact HR0.out | (with_reducible refine Kd.C_alloc ?_ _) | (with_reducible refine Kd.C_drewN ?_ _) | (with_reducible refine Kd.C_drew ?_))); (case side2 => exact HC0.out); rintro e w' ⟨rfl, ⟨nd, rfl⟩⟩; refine ⟨_, rfl, ?_⟩))
 go_ret
 exact ⟨by first | rfl | (simp; done) | (simp [*]; done), by repeat (first | exact qDr _ | apply qDs)⟩
def kashida_Rank.l0 : Nat → Int → List (List Int) → Int → Int → Option (Int)
 | 0, _, _, _, _ => none
 | k + 1, x0, x12, x13, x14 => if x14 < x13 then (if 0 ≤ x14 then (if x14 < (x12.length : Int) then ((slices_Contains_int_int.f k (rd_L2 x12 x14) x0).bind fun t157 => (if t157 = true then (some (wrap64 (x14 + 1))) else (kashida_Rank.l0 k x0 x12 x13 (wrap64 (x14 + 1))))) else (none)) else (none)) else (some 6)
def kashida_Rank.f (k : Nat) (a0 : Int) : Option (Int) := (some (([(([1600] : List Int)), (([1587, 1588, 1589, 1590] : List Int)), (([1577, 1583, 1584, 1607, 1729, 1749] : List Int)), (([1575, 1591, 1592, 1604, 1603, 1705, 1711] : List Int)), (([1585, 1586, 1610, 1740, 1602, 1601, 1593] : List Int))] : List (List Int)) : List (List Int))).bind fun y153 => (kashida_Rank.l0 k a0 y153 (y153.length : Int) 0)
theorem kashida_Rank.calls (k : Nat) (a0 : Int) (r : Int) (w : World) (h : kashida_Rank.f k a0 = some r) :
 Calls Tryz.prog 21 #[.int .i64 a0] w fun e w' => e = .returned (.int .i64 r) ∧ Below w.heap.size w w' := by
 have HB := aMk (qBr w.heap.size w)
 have H : ((some (([(([1600] : List Int)), (([1587, 1588, 1589, 1590] : List Int)), (([1577, 1583, 1584, 1607, 1729, 1749] : List Int)), (([1575, 1591, 1592, 1604, 1603, 1705, 1711] : List Int)), (([1585, 1586, 1610, 1740, 1602, 1601, 1593] : List Int))] : List (List Int)) : List (List Int))).bind fun y153 => (kashida_Rank.l0 k a0 y153 (y153.length : Int) 0)) = some r := h
 clear h
 obtain ⟨y138, hy138⟩ : ∃ y_ : List Int, y_ = (([1600] : List Int)) := ⟨_, rfl⟩
 replace H : ((some (([y138, (([1587, 1588, 1589, 1590] : List Int)), (([1577, 1583, 1584, 1607, 1729, 1749] : List Int)), (([1575, 1591, 1592, 1604, 1603, 1705, 1711] : List Int)), (([1585, 1586, 1610, 1740, 1602, 1601, 1593] : List Int))] : List (List Int)) : List (List Int))).bind fun y153 => (kashida_Rank.l0 k a0 y153 (y153.length : Int) 0)) = some r := by first | (rw [hy138]; with_reducible exact H) | (have H2_ := (qoS _ _).symm.trans H; rw [hy138]; with_reducible exact H2_) | (have H2_ := (qoS _ _).symm.trans H; with_reducible exact H2_) | with_reducible exact H | (rw [hy138]; exact H) | exact H
 have Ny138 := aMk hy138; clear hy138
 obtain ⟨y141, hy141⟩ : ∃ y_ : List Int, y_ = (([1587, 1588, 1589, 1590] : List Int)) := ⟨_, rfl⟩
 replace H : ((some (([y138, y141, (([1577, 1583, 1584, 1607, 1729, 1749] : List Int)), (([1575, 1591, 1592, 1604, 1603, 1705, 1711] : List Int)), (([1585, 1586, 1610, 1740, 1602, 1601, 1593] : List Int))] : List (List Int)) : List (List Int))).bind fun y153 => (kashida_Rank.l0 k a0 y153 (y153.length : Int) 0)) = some r := by first | (rw [hy141]; with_reducible exact H) | (have H2_ := (qoS _ _).symm.trans H; rw [hy141]; with_reducible exact H2_) | (have H2_ := (qoS _ _).symm.trans H; with_reducible exact H2_) | with_reducible exact H | (rw [hy141]; exact H) | exact H
 have Ny141 := aMk hy141; clear hy141
 obtain ⟨y144, hy144⟩ : ∃ y_ : List Int, y_ = (([1577, 1583, 1584, 1607, 1729, 1749] : List Int)) := ⟨_, rfl⟩
 replace H : ((some (([y138, y141, y144, (([1575, 1591, 1592, 1604, 1603, 1705, 1711] : List Int)), (([1585, 1586, 1610, 1740, 1602, 1601, 1593] : List Int))] : List (List Int)) : List (List Int))).bind fun y153 => (kashida_Rank.l0 k a0 y153 (y153.length : Int) 0)) = some r := by first | (rw [hy144]; with_reducible exact H) | (have H2_ := (qoS _ _).symm.trans H; rw [hy144]; with_reducible exact H2_) | (have H2_ := (qoS _ _).symm.trans H; with_reducible exact H2_) | with_reducible exact H | (rw [hy144]; exact H) | exact H
 have Ny144 := aMk hy144; clear hy144
 obtain ⟨y147, hy147⟩ : ∃ y_ : List Int, y_ = (([1575, 1591, 1592, 1604, 1603, 1705, 1711] : List Int)) := ⟨_, rfl⟩
 replace H : ((some (([y138, y141, y144, y147, (([1585, 1586, 1610, 1740, 1602, 1601, 1593] : List Int))] : List (List Int)) : List (List Int))).bind fun y153 => (kashida_Rank.l0 k a0 y153 (y153.length : Int) 0)) = some r := by first | (rw [hy147]; with_reducible exact H) | (have H2_ := (qoS _ _).symm.trans H; rw [hy147]; with_reducible exact H2_) | (have H2_ := (qoS _ _).symm.trans H; with_reducible exact H2_) | with_reducible exact H | (rw [hy147]; exact H) | exact H
 have Ny147 := aMk hy147; clear hy147
 obtain ⟨y150, hy150⟩ : ∃ y_ : List Int, y_ = (([1585, 1586, 1610, 1740, 1602, 1601, 1593] : List Int)) := ⟨_, rfl⟩
 replace H : ((some (([y138, y141, y144, y147, y150] : List (List Int)) : List (List Int))).bind fun y153 => (kashida_Rank.l0 k a0 y153 (y153.length : Int) 0)) = some r := by first | (rw [hy150]; with_reducible exact H) | (have H2_ := (qoS _ _).symm.trans H; rw [hy150]; with_reducible exact H2_) | (have H2_ := (qoS _ _).symm.trans H; with_reducible exact H2_) | with_reducible exact H | (rw [hy150]; exact H) | exact H
 have Ny150 := aMk hy150; clear hy150
 obtain ⟨y153, hy153⟩ : ∃ y_ : List (List Int), y_ = (([y138, y141, y144, y147, y150] : List (List Int))) := ⟨_, rfl⟩
 replace H : (kashida_Rank.l0 k a0 y153 (y153.length : Int) 0) = some r := by first | (rw [hy153]; with_reducible exact H) | (have H2_ := (qoS _ _).symm.trans H; rw [hy153]; with_reducible exact H2_) | (have H2_ := (qoS _ _).symm.trans H; with_reducible exact H2_) | with_reducible exact H | (rw [hy153]; exact H) | exact H
 have Ny153 := aMk hy153; clear hy153
 have H' := aMk H
 clear H
 go_enter Tryz.func21, Tryz.ntmps21
 go_wp2_with (first | ((with_reducible refine gate_dst (N := 6) rfl ?_); refine Kd.R_lit (Kd.int .i64) _ 3 ?hg (N := 6) ?hd (xs := ([1600] : List Int)) (inner := [.int .i64 1600]) (ok := fun _ => True) (okp := fun _ => True) ?hr ?hp (fun _ hk => hk) trivial (qBr _ _) (qlR _) (by simp) ?_; (case hd => rfl); (case hg => rfl); (case hr => go_simp; done); (case hp => exact (Reps.one (show Kd.M (Kd.int .i64) _ _ _ 1600 [.int .i64 1600] from rfl) (Reps.none _ _))); intro v139 w2 ho3 hb hg_ hnew_; clear hg_ hnew_; (first | rw [← Ny138.out] at ho3 | (simp only [Int.reduceToNat] at ho3; rw [← Ny138.out] at ho3)); have n0_ := aMk (Kd.R_lower ho3 (qbZ HB.out)); have n1_ := aMk (qbP HB.out hb); clear HB; have HO140 := n0_; have HB := n1_; clear n0_ n1_; clear hb ho3) | ((with_reducible refine gate_dst (N := 7) rfl ?_); refine Kd.R_lit (Kd.int .i64) _ 3 ?hg (N := 7) ?hd (xs := ([1587, 1588, 1589, 1590] : List Int)) (inner := [.int .i64 1587, .int .i64 1588, .int .i64 1589, .int .i64 1590]) (ok := fun _ => True) (okp := fun _ => True) ?hr ?hp (fun _ hk => hk) trivial (qBr _ _) (qlR _) (by simp) ?_; (case hd => rfl); (case hg => rfl); (case hr => go_simp; done); (case hp => exact (Reps.one (show Kd.M (Kd.int .i64) _ _ _ 1587 [.int .i64 1587] from rfl) (Reps.one (show Kd.M (Kd.int .i64) _ _ _ 1588 [.int .i64 1588] from rfl) (Reps.one (show Kd.M (Kd.int .i64) _ _ _ 1589 [.int .i64 1589] from rfl) (Reps.one (show Kd.M (Kd.int .i64) _ _ _ 1590 [.int .i64 1590] from rfl) (Reps.none _ _)))))); intro v142 w4 ho5 hb hg_ hnew_; clear hg_ hnew_; (first | rw [← Ny141.out] at ho5 | (simp only [Int.reduceToNat] at ho5; rw [← Ny141.out] at ho5)); have n0_ := aMk (Kd.R_elder' HO140.out (Kd.R_base ho5) hb); have n1_ := aMk (Kd.R_lower (Kd.R_new' ho5 (Kd.R_lt HO140.out)) (qbZ HB.out)); have n2_ := aMk (qbP HB.out hb); clear HO140; clear HB; have HO140 := n0_; have HO143 := n1_; have HB := n2_; clear n0_ n1_ n2_; clear hb ho5) | ((with_reducible refine gate_dst (N := 8) rfl ?_); refine Kd.R_lit (Kd.int .i64) _ 3 ?hg (N := 8) ?hd (xs := ([1577, 1583, 1584, 1607, 1729, 1749] : List Int)) (inner := [.int .i64 1577, .int .i64 1583, .int .i64 1584, .int .i64 1607, .int .i64 1729, .int .i64 1749]) (ok := fun _ => True) (okp := fun _ => True) ?hr ?hp (fun _ hk => hk) trivial (qBr _ _) (qlR _) (by simp) ?_; (case hd => rfl); (case hg => rfl); (case hr => go_simp; done); (case hp => exact (Reps.one (show Kd.M (Kd.int .i64) _ _ _ 1577 [.int .i64 1577] from rfl) (Reps.one (show Kd.M (Kd.int .i64) _ _ _ 1583 [.int .i64 1583] from rfl) (Reps.one (show Kd.M (Kd.int .i64) _ _ _ 1584 [.int .i64 1584] from rfl) (Reps.one (show Kd.M (Kd.int .i64) _ _ _ 1607 [.int .i64 1607] from rfl) (Reps.one (show Kd.M (Kd.int .i64) _ _ _ 1729 [.int .i64 1729] from rfl) (Reps.one (show Kd.M (Kd.int .i64) _ _ _ 1749 [.int .i64 1749] from rfl) (Reps.none _ _)))))))); intro v145 w6 ho7 hb hg_ hnew_; clear hg_ hnew_; (first | rw [← Ny144.out] at ho7 | (simp only [Int.reduceToNat] at ho7; rw [← Ny144.out] at ho7)); have n0_ := aMk (Kd.R_elder' HO140.out (Kd.R_base ho7) hb); have n1_ := aMk (Kd.R_elder' HO143.out (Kd.R_base ho7) hb); have n2_ := aMk (Kd.R_lower (Kd.R_new' (Kd.R_new' ho7 (Kd.R_lt HO140.out)) (Kd.R_lt HO143.out)) (qbZ HB.out)); have n3_ := aMk (qbP HB.out hb); clear HO140; clear HO143; clear HB; have HO140 := n0_; have HO143 := n1_; have HO146 := n2_; have HB := n3_; clear n0_ n1_ n2_ n3_; clear hb ho7) | ((with_reducible refine gate_dst (N := 9) rfl ?_); refine Kd.R_lit (Kd.int .i64) _ 3 ?hg (N := 9) ?hd (xs := ([1575, 1591, 1592, 1604, 1603, 1705, 1711] : List Int)) (inner := [.int .i64 1575, .int .i64 1591, .int .i64 1592, .int .i64 1604, .int .i64 1603, .int .i64 1705, .int .i64 1711]) (ok := fun _ => True) (okp := fun _ => True) ?hr ?hp (fun _ hk => hk) trivial (qBr _ _) (qlR _) (by simp) ?_; (case hd => rfl); (case hg => rfl); (case hr => go_simp; done); (case hp => exact (Reps.one (show Kd.M (Kd.int .i64) _ _ _ 1575 [.int .i64 1575] from rfl) (Reps.one (show Kd.M (Kd.int .i64) _ _ _ 1591 [.int .i64 1591] from rfl) (Reps.one (show Kd.M (Kd.int .i64) _ _ _ 1592 [.int .i64 1592] from rfl) (Reps.one (show Kd.M (Kd.int .i64) _ _ _ 1604 [.int .i64 1604] from rfl) (Reps.one (show Kd.M (Kd.int .i64) _ _ _ 1603 [.int .i64 1603] from rfl) (Reps.one (show Kd.M (Kd.int .i64) _ _ _ 1705 [.int .i64 1705] from rfl) (Reps.one (show Kd.M (Kd.int .i64) _ _ _ 1711 [.int .i64 1711] from rfl) (Reps.none _ _))))))))); intro v148 w8 ho9 hb hg_ hnew_; clear hg_ hnew_; (first | rw [← Ny147.out] at ho9 | (simp only [Int.reduceToNat] at ho9; rw [← Ny147.out] at ho9)); have n0_ := aMk (Kd.R_elder' HO140.out (Kd.R_base ho9) hb); have n1_ := aMk (Kd.R_elder' HO143.out (Kd.R_base ho9) hb); have n2_ := aMk (Kd.R_elder' HO146.out (Kd.R_base ho9) hb); have n3_ := aMk (Kd.R_lower (Kd.R_new' (Kd.R_new' (Kd.R_new' ho9 (Kd.R_lt HO140.out)) (Kd.R_lt HO143.out)) (Kd.R_lt HO146.out)) (qbZ HB.out)); have n4_ := aMk (qbP HB.out hb); clear HO140; clear HO143; clear HO146; clear HB; have HO140 := n0_; have HO143 := n1_; have HO146 := n2_; have HO149 := n3_; have HB := n4_; clear n0_ n1_ n2_ n3_ n4_; clear hb ho9) | ((with_reducible refine gate_dst (N := 10) rfl ?_); refine Kd.R_lit (Kd.int .i64) _ 3 ?hg (N := 10) ?hd (xs := ([1585, 1586, 1610, 1740, 1602, 1601, 1593] : List Int)) (inner := [.int .i64 1585, .int .i64 1586, .int .i64 1610, .int .i64 1740, .int .i64 1602, .int .i64 1601, .int .i64 1593]) (ok := fun _ => True) (okp := fun _ => True) ?hr ?hp (fun _ hk => hk) trivial (qBr _ _) (qlR _) (by simp) ?_; (case hd => rfl); (case hg => rfl); (case hr => go_simp; done); (case hp => exact (Reps.one (show Kd.M (Kd.int .i64) _ _ _ 1585 [.int .i64 1585] from rfl) (Reps.one (show Kd.M (Kd.int .i64) _ _ _ 1586 [.int .i64 1586] from rfl) (Reps.one (show Kd.M (Kd.int .i64) _ _ _ 1610 [.int .i64 1610] from rfl) (Reps.one (show Kd.M (Kd.int .i64) _ _ _ 1740 [.int .i64 1740] from rfl) (Reps.one (show Kd.M (Kd.int .i64) _ _ _ 1602 [.int .i64 1602] from rfl) (Reps.one (show Kd.M (Kd.int .i64) _ _ _ 1601 [.int .i64 1601] from rfl) (Reps.one (show Kd.M (Kd.int .i64) _ _ _ 1593 [.int .i64 1593] from rfl) (Reps.none _ _))))))))); intro v151 w10 ho11 hb hg_ hnew_; clear hg_ hnew_; (first | rw [← Ny150.out] at ho11 | (simp only [Int.reduceToNat] at ho11; rw [← Ny150.out] at ho11)); have n0_ := aMk (Kd.R_elder' HO140.out (Kd.R_base ho11) hb); have n1_ := aMk (Kd.R_elder' HO143.out (Kd.R_base ho11) hb); have n2_ := aMk (Kd.R_elder' HO146.out (Kd.R_base ho11) hb); have n3_ := aMk (Kd.R_elder' HO149.out (Kd.R_base ho11) hb); have n4_ := aMk (Kd.R_lower (Kd.R_new' (Kd.R_new' (Kd.R_new' (Kd.R_new' ho11 (Kd.R_lt HO140.out)) (Kd.R_lt HO143.out)) (Kd.R_lt HO146.out)) (Kd.R_lt HO149.out)) (qbZ HB.out)); have n5_ := aMk (qbP HB.out hb); clear HO140; clear HO143; clear HO146; clear HO149; clear HB; have HO140 := n0_; have HO143 := n1_; have HO146 := n2_; have HO149 := n3_; have HO152 := n4_; have HB := n5_; clear n0_ n1_ n2_ n3_ n4_ n5_; clear hb ho11; obtain ⟨Ao12, co12, eo12⟩ := Kd.R_slice HO140.out; subst eo12; obtain ⟨Ao13, co13, eo13⟩ := Kd.R_slice HO143.out; subst eo13; obtain ⟨Ao14, co14, eo14⟩ := Kd.R_slice HO146.out; subst eo14; obtain ⟨Ao15, co15, eo15⟩ := Kd.R_slice HO149.out; subst eo15; obtain ⟨Ao16, co16, eo16⟩ := Kd.R_slice HO152.out; subst eo16) | ((with_reducible refine gate_dst (N := 11) rfl ?_); refine Kd.N_lit (Kd.slice 3 (Kd.int .i64)) _ 22 ?hg (N' := 11) ?hd (xs := ([y138, y141, y144, y147, y150] : List (List Int))) (inner := [.slice Ao12 y138.length co12, .slice Ao13 y141.length co13, .slice Ao14 y144.length co14, .slice Ao15 y147.length co15, .slice Ao16 y150.length co16]) (ok := (fun _ => True)) (okp := (fun _ => True)) ?hr ?hp (fun _ hk => hk) ((show ∀ k_, w10.heap.size ≤ k_ → (fun _ => True) k_ from fun k_ hk => trivial) _ (qlR _)) (qBr _ _) (qlR _) (by simp) ?_; (case hd => rfl); (case hg => rfl); (case hr => go_simp; done); (case hp => exact (Reps.one (show Kd.FK (Kd.slice 3 (Kd.int .i64)) _ _ y138 [.slice Ao12 y138.length co12] from (Kd.FK_slice_mk (Kd.R_reads' (qrM (ok' := (fun _ => True)) (HO140.out) (fun k_ hk => trivial))).2.1 (Kd.R_F (qrM (ok' := (fun _ => True)) (HO140.out) (fun k_ hk => trivial))))) (Reps.one (show Kd.FK (Kd.slice 3 (Kd.int .i64)) _ _ y141 [.slice Ao13 y141.length co13] from (Kd.FK_slice_mk (Kd.R_reads' (qrM (ok' := (fun _ => True)) (HO143.out) (fun k_ hk => trivial))).2.1 (Kd.R_F (qrM (ok' := (fun _ => True)) (HO143.out) (fun k_ hk => trivial))))) (Reps.one (show Kd.FK (Kd.slice 3 (Kd.int .i64)) _ _ y144 [.slice Ao14 y144.length co14] from (Kd.FK_slice_mk (Kd.R_reads' (qrM (ok' := (fun _ => True)) (HO146.out) (fun k_ hk => trivial))).2.1 (Kd.R_F (qrM (ok' := (fun _ => True)) (HO146.out) (fun k_ hk => trivial))))) (Reps.one (show Kd.FK (Kd.slice 3 (Kd.int .i64)) _ _ y147 [.slice Ao15 y147.length co15] from (Kd.FK_slice_mk (Kd.R_reads' (qrM (ok' := (fun _ => True)) (HO149.out) (fun k_ hk => trivial))).2.1 (Kd.R_F (qrM (ok' := (fun _ => True)) (HO149.out) (fun k_ hk => trivial))))) (Reps.one (show Kd.FK (Kd.slice 3 (Kd.int .i64)) _ _ y150 [.slice Ao16 y150.length co16] from (Kd.FK_slice_mk (Kd.R_reads' (qrM (ok' := (fun _ => True)) (HO152.out) (fun k_ hk => trivial))).2.1 (Kd.R_F (qrM (ok' := (fun _ => True)) (HO152.out) (fun k_ hk => trivial))))) (Reps.none _ _))))))); intro v154 w17 ho18 hb hg_ hnew_; clear hg_ hnew_; (first | rw [← Ny153.out] at ho18 | (simp only [Int.reduceToNat] at ho18; rw [← Ny153.out] at ho18)); have n0_ := aMk (Kd.N_lower ho18 (qbZ HB.out)); have n1_ := aMk (qbP HB.out hb); clear HB; clear HO140; clear HO143; clear HO146; clear HO149; clear HO152; have HO155 := n0_; have HB := n1_; clear n0_ n1_; clear hb ho18; obtain ⟨Ao19, co19, eo19⟩ := Kd.N_slice HO155.out; subst eo19))
 go_loopg [14] k (fun kq v14 w' => ∃ (x14_1 : Int), v14 = .int .i64 x14_1 ∧ Aside0 (kashida_Rank.l0 kq a0 y153 (y153.length : Int) x14_1 = some r) ∧ Aside0 (kq ≤ k) ∧ Aside0 (Kd.N (Kd.slice 3 (Kd.int .i64)) 22 w' w.heap.size (fun _ => True) (.slice Ao19 y153.length co19) y153) ∧ Aside0 (Below w.heap.size w w'))
 case atStart => exact ⟨(0), rfl, H', ⟨qlR _⟩, ⟨by (with_reducible repeat (first | apply Kd.N_alloc | apply Kd.N_drewN | apply Kd.N_drew)); exact HO155.out⟩, ⟨by repeat (first | (with_reducible first | exact HB.out | apply qbA | apply qbN | apply qb1) | exact HB.out)⟩⟩
 case round =>
  clear H'
  obtain ⟨x14_1, rfl, HA, HK1, HO_12, HB⟩ := hrel
  cases gk with
  | zero => exact absurd HA.out (by simp [kashida_Rank.l0])
  | succ k1 =>
   have H := HA.out
   clear HA
   simp only [kashida_Rank.l0] at H
   by_cases c20 : x14_1 < (y153.length : Int)
   ·rw [if_pos c20] at H
    have c20b0 := qdT c20
    clear c20
    by_cases c21 : 0 ≤ x14_1
    ·rw [if_pos c21] at H
     have c21b0 := qdT c21
     clear c21
     by_cases c22 : x14_1 < (y153.length : Int)
     ·rw [if_pos c22] at H
      have c22b0 := qdT c22
      clear c22
      replace H := qoB.mp H
      obtain ⟨t157, A230, H⟩ := H
      try dsimp only at H
      have A23 := aMk A230; clear A230
      by_cases c24 : t157 = true
      ·subst c24
       rw [if_pos rfl] at H
       obtain rfl := qoI H
       have p156 : 0 ≤ (x14_1 : Int) := qoD (by assumption)
       have q156 : x14_1 < (y153.length : Int) := qoD (by assumption)
       obtain ⟨ad156, A156_0, c156_0, e156, hx156_0, hl156_0, hi156_0⟩ := at_L2 (Kd.N_reads' HO_12.out).2.2 x14_1 p156 q156
       cases e156
       obtain ⟨ce156, hce156, hMe156, hcc156⟩ := Kd.N_get HO_12.out [] x14_1 p156 (by first | exact q156 | exact qoD (by assumption) | (have e_ := (Kd.N_reads' HO_12.out).1; omega))
       obtain ⟨ua156_0, uc156_0, rfl, ul156_0, ge156_0⟩ := Kd.FK_slice_open hMe156
       have hv156_0 := hcc156 0 _ rfl
       rw [Nat.add_zero, show ((Kd.slice 3 (Kd.int .i64))).sz = 1 from rfl, Nat.mul_one] at hv156_0
       replace hv156_0 := qoI (hv156_0.symm.trans hx156_0)
       injection hv156_0 with hva_ hvn_ hvc_
       rw [hva_] at ge156_0
       rw [hvc_] at ul156_0
       have HL156_0 := aMk (show Kd.V (Kd.int .i64) 3 _ w.heap.size _ _ (rd_L2 y153 x14_1) from Kd.V_mk ul156_0 ge156_0)
       clear hva_ hvn_ hvc_ ge156_0 ul156_0
       clear hcc156 hce156
       have HR156_0 := aMk hi156_0
       have HC156_0 := aMk hl156_0
       clear hi156_0 hl156_0
       replace p156 := eq_true p156
       replace q156 := eq_true q156
       go_wp2_with (first | ((with_reducible refine gate_callee (f := 68) rfl ?_); refine goesL_ (some 21) rfl rfl Tryz.func68 (by kernel_rfl) rfl #[.slice A156_0 (rd_L2 y153 x14_1).length c156_0, .int .i64 a0] rfl (by (try simp only [lm0, lm1, lm2]); first | done | rfl | (simp only [lm3, lm4]; rfl)) ?_; (with_reducible refine (slices_Contains_int_int.calls k1 _ _ (rd_L2 y153 x14_1) a0 true _ ?side1 ?side2 A23.out).mono ?_); (case side1 => repeat (first | exact (by repeat (first | (with_reducible exact HR156_0.out) | (with_reducible refine Kd.C_alloc ?_ _) | (with_reducible refine Kd.C_drewN ?_ _) | (with_reducible refine Kd.C_drew ?_) | exact HR156_0.out)) | (with_reducible refine Kd.C_alloc ?_ _) | (with_reducible refine Kd.C_drewN ?_ _) | (with_reducible refine Kd.C_drew ?_))); (case side2 => exact HC156_0.out); rintro e w' ⟨rfl, ⟨nd, rfl⟩⟩; refine ⟨_, rfl, ?_⟩))
       go_ret
       exact ⟨rfl, by repeat (first | (with_reducible first | exact HB.out | apply qbA | apply qbN | apply qb1) | exact HB.out)⟩
      ·replace c24 := qbE.mpr c24
       subst c24
       rw [if_neg (show ¬ (false = true) by decide)] at H
       have H' := aMk H
       clear H
       have p156 : 0 ≤ (x14_1 : Int) := qoD (by assumption)
       have q156 : x14_1 < (y153.length : Int) := qoD (by assumption)
       obtain ⟨ad156, A156_0, c156_0, e156, hx156_0, hl156_0, hi156_0⟩ := at_L2 (Kd.N_reads' HO_12.out).2.2 x14_1 p156 q156
       cases e156
       obtain ⟨ce156, hce156, hMe156, hcc156⟩ := Kd.N_get HO_12.out [] x14_1 p156 (by first | exact q156 | exact qoD (by assumption) | (have e_ := (Kd.N_reads' HO_12.out).1; omega))
       obtain ⟨ua156_0, uc156_0, rfl, ul156_0, ge156_0⟩ := Kd.FK_slice_open hMe156
       have hv156_0 := hcc156 0 _ rfl
       rw [Nat.add_zero, show ((Kd.slice 3 (Kd.int .i64))).sz = 1 from rfl, Nat.mul_one] at hv156_0
       replace hv156_0 := qoI (hv156_0.symm.trans hx156_0)
       injection hv156_0 with hva_ hvn_ hvc_
       rw [hva_] at ge156_0
       rw [hvc_] at ul156_0
       have HL156_0 := aMk (show Kd.V (Kd.int .i64) 3 _ w.heap.size _ _ (rd_L2 y153 x14_1) from Kd.V_mk ul156_0 ge156_0)
       clear hva_ hvn_ hvc_ ge156_0 ul156_0
       clear hcc156 hce156
       have HR156_0 := aMk hi156_0
       have HC156_0 := aMk hl156_0
       clear hi156_0 hl156_0
       replace p156 := eq_true p156
       replace q156 := eq_true q156
       go_wp2_with (first | ((with_reducible refine gate_callee (f := 68) rfl ?_); refine goesL_ (some 21) rfl rfl Tryz.func68 (by kernel_rfl) rfl #[.slice A156_0 (rd_L2 y153 x14_1).length c156_0, .int .i64 a0] rfl (by (try simp only [lm0, lm1, lm2]); first | done | rfl | (simp only [lm3, lm4]; rfl)) ?_; (with_reducible refine (slices_Contains_int_int.calls k1 _ _ (rd_L2 y153 x14_1) a0 false _ ?side1 ?side2 A23.out).mono ?_); (case side1 => repeat (first | exact (by repeat (first | (with_reducible exact HR156_0.out) | (with_reducible refine Kd.C_alloc ?_ _) | (with_reducible refine Kd.C_drewN ?_ _) | (with_reducible refine Kd.C_drew ?_) | exact HR156_0.out)) | (with_reducible refine Kd.C_alloc ?_ _) | (with_reducible refine Kd.C_drewN ?_ _) | (with_reducible refine Kd.C_drew ?_))); (case side2 => exact HC156_0.out); rintro e w' ⟨rfl, ⟨nd, rfl⟩⟩; refine ⟨_, rfl, ?_⟩))
       go_roundg k1
       case measure => have := HK1.out; omega
       case rel => exact ⟨(wrap64 (x14_1 + 1)), rfl, H', ⟨by have := HK1.out; omega⟩, ⟨by (with_reducible repeat (first | apply Kd.N_alloc | apply Kd.N_drewN | apply Kd.N_drew)); exact HO_12.out⟩, ⟨by repeat (first | (with_reducible first | exact HB.out | apply qbA | apply qbN | apply qb1) | exact HB.out)⟩⟩
     ·rw [if_neg c22] at H
      exact absurd H (by simp)
    ·rw [if_neg c21] at H
     exact absurd H (by simp)
   ·rw [if_neg c20] at H
    have c20b0 := qdF c20
    clear c20
    obtain rfl := qoI H
    go_wp2
    go_ret
    exact ⟨rfl, by repeat (first | (with_reducible first | exact HB.out | apply qbA | apply qbN | apply qb1) | exact HB.out)⟩
end PKashidaStretches
end
section
namespace PKashidaStretches

attribute [local go_sem] max2_int min2_int max_two min_two max_three min_three max_four min_four
def kashida_text_rank.f (k : Nat) (l0_0 : List Int) (l0_1 : List Int) (a1 : Int) (a2 : Int) : Option (Int) := if 0 ≤ a1 then (if a1 < (l0_0.length : Int) then ((kashida_Rank.f k (rd l0_0 a1)).bind fun t160 => (if 0 ≤ a2 then (if a2 < (l0_0.length : Int) then ((kashida_Rank.f k (rd l0_0 a2)).bind fun t162 => (if t160 > 2 then (if t162 < 3 then (some (mn 6 6)) else (some (mn 6 t162))) else (if t162 < 3 then (some (mn t160 6)) else (some (mn t160 t162))))) else (none)) else (none))) else (none)) else (none)
def kashida_text_rank.T1 : Bool × List (List Nat × List Nat) := (true, [([], []), ([0], [0]), ([], []), ([1, 2], [1, 2]), ([3], [3]), ([4], [4]), ([], []), ([6], [6]), ([], []), ([7, 8], [7, 8]), ([9], [9]), ([10, 5], [10]), ([5, 11, 0, 1, 2, 3, 4, 5], [5]), ([11, 12, 0, 1, 2, 3, 4, 5, 6, 7, 8, 9, 10, 11, 12], [11])])
def kashida_text_rank.B1 : List Nat := [0, 1, 0, 7, 15, 31, 0, 64, 0, 448, 960, 2047, 4095, 8191]
theorem kashida_text_rank.tab1 : rtab .any (opsOf Tryz.f182 1) = kashida_text_rank.T1 := by kernel_rfl
theorem kashida_text_rank.bits1 : waitsOk kashida_text_rank.T1.2 kashida_text_rank.B1 = true := by kernel_rfl
theorem kashida_text_rank.calls (k : Nat) (A0_0 : Option Addr) (c0_0 : Nat) (l0_0 : List Int) (A0_1 : Option Addr) (c0_1 : Nat) (l0_1 : List Int) (a1 : Int) (a2 : Int) (r : Int) (w : World) (hr0_0 : Kd.C (Kd.int .i64) w A0_0 l0_0.length l0_0) (hc0_0 : l0_0.length ≤ c0_0) (hr0_1 : Kd.C (Kd.int .i64) w A0_1 l0_1.length l0_1) (hc0_1 : l0_1.length ≤ c0_1) (h : kashida_text_rank.f k l0_0 l0_1 a1 a2 = some r) :
 Calls Tryz.prog 182 #[.agg #[.slice A0_0 l0_0.length c0_0, .slice A0_1 l0_1.length c0_1], .int .i64 a1, .int .i64 a2] w fun e w' => e = .returned (.int .i64 r) ∧ Below w.heap.size w w' := by
 have hu82 := Tryz.underlying82
 have HR0_0 := aMk hr0_0
 have HC0_0 := aMk hc0_0
 clear hr0_0 hc0_0
 have HR0_1 := aMk hr0_1
 have HC0_1 := aMk hc0_1
 clear hr0_1 hc0_1
 have HB := aMk (qBr w.heap.size w)
 have H : (if 0 ≤ a1 then (if a1 < (l0_0.length : Int) then ((kashida_Rank.f k (rd l0_0 a1)).bind fun t160 => (if 0 ≤ a2 then (if a2 < (l0_0.length : Int) then ((kashida_Rank.f k (rd l0_0 a2)).bind fun t162 => (if t160 > 2 then (if t162 < 3 then (some (mn 6 6)) else (some (mn 6 t162))) else (if t162 < 3 then (some (mn t160 6)) else (some (mn t160 t162))))) else (none)) else (none))) else (none)) else (none)) = some r := h
 clear h
 by_cases c4 : 0 ≤ a1
 ·rw [if_pos c4] at H
  have c4b0 := qdT c4
  clear c4
  by_cases c5 : a1 < (l0_0.length : Int)
  ·rw [if_pos c5] at H
   have c5b0 := qdT c5
   clear c5
   replace H := qoB.mp H
   obtain ⟨t160, A60, H⟩ := H
   try dsimp only at H
   have A6 := aMk A60; clear A60
   by_cases c7 : 0 ≤ a2
   ·rw [if_pos c7] at H
    have c7b0 := qdT c7
    clear c7
    by_cases c8 : a2 < (l0_0.length : Int)
    ·rw [if_pos c8] at H
     have c8b0 := qdT c8
     clear c8
     replace H := qoB.mp H
     obtain ⟨t162, A90, H⟩ := H
     try dsimp only at H
     have A9 := aMk A90; clear A90
     go_enter Tryz.func182, Tryz.ntmps182
     try go_wp2_with (first | ((with_reducible refine gate_dst (N := 3) rfl ?_); refine box_event ?hg (N := 3) ?hd (cs := #[.slice A0_0 l0_0.length c0_0, .slice A0_1 l0_1.length c0_1]) (t := 82) ?hr ?_; (case hd => rfl); (case hg => rfl); (case hr => go_simp; done); intro gb158 hg w13 hbox hb; have n0_ := aMk (qbP (by repeat (first | (with_reducible first | exact HB.out | apply qbA | apply qbN | apply qb1) | exact HB.out)) hb); have n1_ := aMk (hbox); have n2_ := aMk ((by rw [hg]; exact (qbZ (by repeat (first | (with_reducible first | exact HB.out | apply qbA | apply qbN | apply qb1) | exact HB.out))) : w.heap.size ≤ gb158)); have n3_ := aMk ((by rw [hg]; exact (qbZ (by repeat (first | (with_reducible first | exact HB.out | apply qbA | apply qbN | apply qb1) | exact HB.out))) : w.heap.size ≤ gb158)); clear HB; have HB := n0_; have BK158 := n1_; have GW158 := n2_; have GE158 := n3_; clear n0_ n1_ n2_ n3_; clear hb hbox hg))
     have n0_ := aMk (blk_drew BK158.out)
     have n1_ := aMk (qb1 HB.out)
     clear BK158
     clear HB
     have BK158 := n0_
     have HB := n1_
     clear n0_ n1_
     have p159 : 0 ≤ (a1 : Int) := qoD (by assumption)
     have q159 : a1 < (l0_0.length : Int) := qoD (by assumption)
     obtain ⟨ad159, e159, hx159_0⟩ := Kd.at_int HR0_0.out a1 p159 q159
     have hw159_0 := hx159_0
     cases e159
     replace hx159_0 := (HB.out.cell (qwL w _ hx159_0)).trans hx159_0
     replace p159 := eq_true p159
     replace q159 := eq_true q159
     have p161 : 0 ≤ (a2 : Int) := qoD (by assumption)
     have q161 : a2 < (l0_0.length : Int) := qoD (by assumption)
     obtain ⟨ad161, e161, hx161_0⟩ := Kd.at_int HR0_0.out a2 p161 q161
     have hw161_0 := hx161_0
     obtain rfl : ad159 = ad161 := (by injection e161)
     replace hx161_0 := (HB.out.cell (qwL w _ hx161_0)).trans hx161_0
     replace p161 := eq_true p161
     replace q161 := eq_true q161
     refine start_ (n := 14) (S := fun w' => w'.cell? ⟨gb158, 0, none⟩ = some (.slice (some ad159) l0_0.length c0_0) ∧ w'.cell? ⟨gb158, 1, none⟩ = some (.slice A0_1 l0_1.length c0_1) ∧ w'.cell? (ad159.add (a1).toNat) = some (.int .i64 (rd l0_0 a1)) ∧ w'.cell? (ad159.add (a2).toNat) = some (.int .i64 (rd l0_0 a2))) (ds := []) #[false, false, false, false, false, false, false, false, false, false, false, false, false, false] (by kernel_rfl) rfl rfl ⟨(blk_cell BK158.out 0).trans rfl, (blk_cell BK158.out 1).trans rfl, ((HB.out.cell (qwL w _ hw159_0)).trans hw159_0), ((HB.out.cell (qwL w _ hw161_0)).trans hw161_0)⟩ (fun hHeld => ?_); refine with_tabW kashida_text_rank.tab1 kashida_text_rank.bits1 (fun HT_ HW_ => ?_)
     generalize w13.drew = w14 at BK158 HB hx159_0 hx161_0 hHeld ⊢
     refine pure_ (i := 0) (N := some 9) (v := ?_) (a' := ?_) #[true, false, false, false, false, false, false, false, false, false, false, false, false, false] rfl rfl (any_of HT_.out (by kernel_rfl)) (fun _ _ _ h => h) (Or.inl ⟨by rfl, ?_⟩) ?_ ?_
     rotate_left
     ·intro w'
      go_simp
      with_reducible rfl
     rotate_left
     ·simp only [Act.put, sqA, sq0, sq1, i64_w, i32_w]
      rfl
     refine pure_ (i := 2) (N := some 11) (v := ?_) (a' := ?_) #[true, false, true, false, false, false, false, false, false, false, false, false, false, false] rfl rfl (any_of HT_.out (by kernel_rfl)) (fun _ _ _ h => h) (Or.inl ⟨by rfl, ?_⟩) ?_ ?_
     rotate_left
     ·intro w'
      go_simp
      with_reducible rfl
     rotate_left
     ·simp only [Act.put, sqA, sq0, sq1, i64_w, i32_w]
      rfl
     refine pure_ (i := 6) (N := some 15) (v := ?_) (a' := ?_) #[true, false, true, false, false, false, true, false, false, false, false, false, false, false] rfl rfl (any_of HT_.out (by kernel_rfl)) (fun _ _ _ h => h) (Or.inl ⟨by rfl, ?_⟩) ?_ ?_
     rotate_left
     ·intro w'
      go_simp
      with_reducible rfl
     rotate_left
     ·simp only [Act.put, sqA, sq0, sq1, i64_w, i32_w]
      rfl
     refine pure_ (i := 8) (N := some 17) (v := ?_) (a' := ?_) #[true, false, true, false, false, false, true, false, true, false, false, false, false, false] rfl rfl (any_of HT_.out (by kernel_rfl)) (fun _ _ _ h => h) (Or.inl ⟨by rfl, ?_⟩) ?_ ?_
     rotate_left
     ·intro w'
      go_simp
      with_reducible rfl
     rotate_left
     ·simp only [Act.put, sqA, sq0, sq1, i64_w, i32_w]
      rfl
     refine take_ (i := 1) (N := some 10) (v := ?_) (a' := ?_) #[true, true, true, false, false, false, true, false, true, false, false, false, false, false] rfl rfl (take_ofW HT_.out HW_.out (by kernel_rfl)) (fun _ _ _ h => h) (Or.inl ⟨by rfl, ?_⟩) hHeld ?_ ?_
     rotate_left
     ·rintro w' ⟨s0, s1, s2, s3⟩
      go_simp
      with_reducible rfl
     rotate_left
     ·simp only [Act.put, sqA, sq0, sq1, i64_w, i32_w]
      rfl
     refine pure_ (i := 3) (N := some 12) (v := ?_) (a' := ?_) #[true, true, true, true, false, false, true, false, true, false, false, false, false, false] rfl rfl (any_of HT_.out (by kernel_rfl)) (fun _ _ _ h => h) (Or.inl ⟨by rfl, ?_⟩) ?_ ?_
     rotate_left
     ·intro w'
      go_simp
      with_reducible rfl
     rotate_left
     ·simp only [Act.put, sqA, sq0, sq1, i64_w, i32_w]
      rfl
     refine take_ (i := 4) (N := some 13) (v := ?_) (a' := ?_) #[true, true, true, true, true, false, true, false, true, false, false, false, false, false] rfl rfl (take_ofW HT_.out HW_.out (by kernel_rfl)) (fun _ _ _ h => h) (Or.inl ⟨by rfl, ?_⟩) hHeld ?_ ?_
     rotate_left
     ·rintro w' ⟨s0, s1, s2, s3⟩
      go_simp
      with_reducible rfl
     rotate_left
     ·simp only [Act.put, sqA, sq0, sq1, i64_w, i32_w]
      rfl
     refine take_ (i := 7) (N := some 16) (v := ?_) (a' := ?_) #[true, true, true, true, true, false, true, true, true, false, false, false, false, false] rfl rfl (take_ofW HT_.out HW_.out (by kernel_rfl)) (fun _ _ _ h => h) (Or.inl ⟨by rfl, ?_⟩) hHeld ?_ ?_
     rotate_left
     ·rintro w' ⟨s0, s1, s2, s3⟩
      go_simp
      with_reducible rfl
     rotate_left
     ·simp only [Act.put, sqA, sq0, sq1, i64_w, i32_w]
      rfl
     refine pure_ (i := 9) (N := some 18) (v := ?_) (a' := ?_) #[true, true, true, true, true, false, true, true, true, true, false, false, false, false] rfl rfl (any_of HT_.out (by kernel_rfl)) (fun _ _ _ h => h) (Or.inl ⟨by rfl, ?_⟩) ?_ ?_
     rotate_left
     ·intro w'
      go_simp
      with_reducible rfl
     rotate_left
     ·simp only [Act.put, sqA, sq0, sq1, i64_w, i32_w]
      rfl
     refine take_ (i := 10) (N := some 19) (v := ?_) (a' := ?_) #[true, true, true, true, true, false, true, true, true, true, true, false, false, false] rfl rfl (take_ofW HT_.out HW_.out (by kernel_rfl)) (fun _ _ _ h => h) (Or.inl ⟨by rfl, ?_⟩) hHeld ?_ ?_
     rotate_left
     ·rintro w' ⟨s0, s1, s2, s3⟩
      go_simp
      with_reducible rfl
     rotate_left
     ·simp only [Act.put, sqA, sq0, sq1, i64_w, i32_w]
      rfl
     refine one_ (i := 5) (N := some 14) #[true, true, true, true, true, true, true, true, true, true, true, false, false, false] rfl rfl (one_of HT_.out (by kernel_rfl)) (by decide) (fun K hK => ?_)
     refine goes_ Tryz.func21 (by kernel_rfl) rfl #[.int .i64 (rd l0_0 a1)] (by rfl) rfl rfl (by (try simp only [lm0, lm1, lm2]); first | done | rfl | (simp only [lm3, lm4]; rfl)) ?_
     with_reducible refine (kashida_Rank.calls k (rd l0_0 a1) t160 _ A6.out).mono ?_
     rintro e w15 ⟨rfl, hb⟩
     refine ⟨_, rfl, ?_⟩
     have n0_ := aMk (blk_below (g := gb158) (o := .cells #[.slice (some ad159) l0_0.length c0_0, .slice A0_1 l0_1.length c0_1] 82 (0, 0)) (by (with_reducible repeat (first | refine blk_drewN ?_ _ | refine blk_drew ?_ | refine blk_alloc ?_ _)); exact BK158.out) hb)
     have n1_ := aMk (qbP (by repeat (first | (with_reducible first | exact HB.out | apply qbA | apply qbN | apply qb1 | refine qbS ?_ GE158.out) | exact HB.out)) hb)
     clear BK158
     clear HB
     have BK158 := n0_
     have HB := n1_
     clear n0_ n1_
     (try clear hb)
     (try clear hb2)
     (try clear hk)
     (try clear hi)
     refine hK.out _ _ ⟨(blk_cell BK158.out 0).trans rfl, (blk_cell BK158.out 1).trans rfl, ((HB.out.cell (qwL w _ hw159_0)).trans hw159_0), ((HB.out.cell (qwL w _ hw161_0)).trans hw161_0)⟩ (fun hHeld => ?_)
     clear hK K
     refine norm_ (a' := ?_) ?_ ?_
     rotate_left
     ·show Act.put _ (some 14) _ = _
      simp only [Act.put, sqA, sq0, sq1, i64_w, i32_w]
      rfl
     refine one_ (i := 11) (N := some 20) #[true, true, true, true, true, true, true, true, true, true, true, true, false, false] rfl rfl (one_of HT_.out (by kernel_rfl)) (by decide) (fun K hK => ?_)
     refine goes_ Tryz.func21 (by kernel_rfl) rfl #[.int .i64 (rd l0_0 a2)] (by rfl) rfl rfl (by (try simp only [lm0, lm1, lm2]); first | done | rfl | (simp only [lm3, lm4]; rfl)) ?_
     with_reducible refine (kashida_Rank.calls k (rd l0_0 a2) t162 _ A9.out).mono ?_
     rintro e w16 ⟨rfl, hb⟩
     refine ⟨_, rfl, ?_⟩
     have n0_ := aMk (blk_below (g := gb158) (o := .cells #[.slice (some ad159) l0_0.length c0_0, .slice A0_1 l0_1.length c0_1] 82 (0, 0)) (by (with_reducible repeat (first | refine blk_drewN ?_ _ | refine blk_drew ?_ | refine blk_alloc ?_ _)); exact BK158.out) hb)
     have n1_ := aMk (qbP (by repeat (first | (with_reducible first | exact HB.out | apply qbA | apply qbN | apply qb1 | refine qbS ?_ GE158.out) | exact HB.out)) hb)
     clear BK158
     clear HB
     have BK158 := n0_
     have HB := n1_
     clear n0_ n1_
     (try clear hb)
     (try clear hb2)
     (try clear hk)
     (try clear hi)
     refine hK.out _ _ ⟨(blk_cell BK158.out 0).trans rfl, (blk_cell BK158.out 1).trans rfl, ((HB.out.cell (qwL w _ hw159_0)).trans hw159_0), ((HB.out.cell (qwL w _ hw161_0)).trans hw161_0)⟩ (fun hHeld => ?_)
     clear hK K
     refine norm_ (a' := ?_) ?_ ?_
     rotate_left
     ·show Act.put _ (some 20) _ = _
      simp only [Act.put, sqA, sq0, sq1, i64_w, i32_w]
      rfl
     refine pure_ (i := 12) (N := some 7) (v := ?_) (a' := ?_) #[true, true, true, true, true, true, true, true, true, true, true, true, true, false] rfl rfl (any_of HT_.out (by kernel_rfl)) (fun _ _ _ h => h) (Or.inl ⟨by rfl, ?_⟩) ?_ ?_
     rotate_left
     ·intro w'
      go_simp
      with_reducible rfl
     rotate_left
     ·simp only [Act.put, sqA, sq0, sq1, i64_w, i32_w]
      rfl
     refine pure_ (i := 13) (N := some 8) (v := ?_) (a' := ?_) #[true, true, true, true, true, true, true, true, true, true, true, true, true, true] rfl rfl (any_of HT_.out (by kernel_rfl)) (fun _ _ _ h => h) (Or.inl ⟨by rfl, ?_⟩) ?_ ?_
     rotate_left
     ·intro w'
      go_simp
      with_reducible rfl
     rotate_left
     ·simp only [Act.put, sqA, sq0, sq1, i64_w, i32_w]
      rfl
     refine done_ (done_of HT_.out (by kernel_rfl)) ?_
     by_cases c10 : t160 > 2
     ·rw [if_pos c10] at H
      have c10b0 : decide (2 < t160) = true := qdT c10
      clear c10
      by_cases c11 : t162 < 3
      ·rw [if_pos c11] at H
       have c11b0 := qdT c11
       clear c11
       obtain ⟨ji12, hji12⟩ : ∃ j_ : Int, (mn 6 6) = j_ := ⟨_, rfl⟩
       replace H : (some ji12) = some r := by first | (rw [hji12] at H; exact H) | (simp only [hji12] at H ⊢; exact H)
       (try rw [hji12] at A6)
       (try rw [hji12] at A9)
       (try (have hji12h : ji12 ≤ 6 := by (rw [← hji12]; unfold mn; (repeat' split) <;> omega)))
       (try (have hji12g : ji12 ≤ 64 := by omega))
       (try (have hji12l : 6 ≤ ji12 := by (rw [← hji12]; unfold mn; (repeat' split) <;> omega)))
       (try (have hji12m : 0 ≤ ji12 := by omega))
       have hji12_ : (if 6 < 6 then 6 else 6) = ji12 := hji12
       obtain rfl := qoI H
       try go_wp2
       go_ret
       exact ⟨by first | rfl | (simp [errW_none, errW_some] <;> rfl) | (simp only [← hji12]; first | rfl | (simp [errW_none, errW_some] <;> rfl)) | (simp [*, errW_none, errW_some] <;> rfl), by repeat (first | (with_reducible first | exact HB.out | apply qbA | apply qbN | apply qb1 | refine qbS ?_ GE158.out) | exact HB.out)⟩
      ·rw [if_neg c11] at H
       have c11b0 := qdF c11
       clear c11
       obtain ⟨ji17, hji17⟩ : ∃ j_ : Int, (mn 6 t162) = j_ := ⟨_, rfl⟩
       replace H : (some ji17) = some r := by first | (rw [hji17] at H; exact H) | (simp only [hji17] at H ⊢; exact H)
       (try rw [hji17] at A6)
       (try rw [hji17] at A9)
       (try (have hji17h : ji17 ≤ 6 := by (rw [← hji17]; unfold mn; (repeat' split) <;> omega)))
       (try (have hji17g : ji17 ≤ 64 := by omega))
       have hji17_ : (if t162 < 6 then t162 else 6) = ji17 := hji17
       obtain rfl := qoI H
       try go_wp2
       go_ret
       exact ⟨by first | rfl | (simp [errW_none, errW_some] <;> rfl) | (simp only [← hji17]; first | rfl | (simp [errW_none, errW_some] <;> rfl)) | (simp [*, errW_none, errW_some] <;> rfl), by repeat (first | (with_reducible first | exact HB.out | apply qbA | apply qbN | apply qb1 | refine qbS ?_ GE158.out) | exact HB.out)⟩
     ·rw [if_neg c10] at H
      have c10b0 : decide (2 < t160) = false := qdF c10
      clear c10
      by_cases c22 : t162 < 3
      ·rw [if_pos c22] at H
       have c22b0 := qdT c22
       clear c22
       obtain ⟨ji23, hji23⟩ : ∃ j_ : Int, (mn t160 6) = j_ := ⟨_, rfl⟩
       replace H : (some ji23) = some r := by first | (rw [hji23] at H; exact H) | (simp only [hji23] at H ⊢; exact H)
       (try rw [hji23] at A6)
       (try rw [hji23] at A9)
       (try (have hji23h : ji23 ≤ 6 := by (rw [← hji23]; unfold mn; (repeat' split) <;> omega)))
       (try (have hji23g : ji23 ≤ 64 := by omega))
       have hji23_ : (if 6 < t160 then 6 else t160) = ji23 := hji23
       obtain rfl := qoI H
       try go_wp2
       go_ret
       exact ⟨by first | rfl | (simp [errW_none, errW_some] <;> rfl) | (simp only [← hji23]; first | rfl | (simp [errW_none, errW_some] <;> rfl)) | (simp [*, errW_none, errW_some] <;> rfl), by repeat (first | (with_reducible first | exact HB.out | apply qbA | apply qbN | apply qb1 | refine qbS ?_ GE158.out) | exact HB.out)⟩
      ·rw [if_neg c22] at H
       have c22b0 := qdF c22
       clear c22
       obtain ⟨ji28, hji28⟩ : ∃ j_ : Int, (mn t160 t162) = j_ := ⟨_, rfl⟩
       replace H : (some ji28) = some r := by first | (rw [hji28] at H; exact H) | (simp only [hji28] at H ⊢; exact H)
       (try rw [hji28] at A6)
       (try rw [hji28] at A9)
       have hji28_ : (if t162 < t160 then t162 else t160) = ji28 := hji28
       obtain rfl := qoI H
       try go_wp2
       go_ret
       exact ⟨by first | rfl | (simp [errW_none, errW_some] <;> rfl) | (simp only [← hji28]; first | rfl | (simp [errW_none, errW_some] <;> rfl)) | (simp [*, errW_none, errW_some] <;> rfl), by repeat (first | (with_reducible first | exact HB.out | apply qbA | apply qbN | apply qb1 | refine qbS ?_ GE158.out) | exact HB.out)⟩
    ·rw [if_neg c8] at H
     exact absurd H (by simp)
   ·rw [if_neg c7] at H
    exact absurd H (by simp)
  ·rw [if_neg c5] at H
   exact absurd H (by simp)
 ·rw [if_neg c4] at H
  exact absurd H (by simp)
end PKashidaStretches
end
section
namespace PKashidaStretches

attribute [local go_sem] max2_int min2_int max_two min_two max_three min_three max_four min_four
def cmp_Or_int.l0 : Nat → Int → List Int → Int → Int → Option (Int)
 | 0, _, _, _, _ => none
 | k + 1, x3, x6, x7, x8 => if x8 < x7 then (if 0 ≤ x8 then (if x8 < (x6.length : Int) then (if (rd x6 x8) = x3 then (cmp_Or_int.l0 k x3 x6 x7 (wrap64 (x8 + 1))) else (some (rd x6 x8))) else (none)) else (none)) else (some x3)
def cmp_Or_int.f (k : Nat) (l0 : List Int) : Option (Int) := cmp_Or_int.l0 k 0 l0 (l0.length : Int) 0
theorem cmp_Or_int.calls (k : Nat) (A0 : Option Addr) (c0 : Nat) (l0 : List Int) (r : Int) (w : World) (hr0 : Kd.C (Kd.int .i64) w A0 l0.length l0) (hc0 : l0.length ≤ c0) (h : cmp_Or_int.f k l0 = some r) :
 Calls Tryz.prog 185 #[.slice A0 l0.length c0] w fun e w' => e = .returned (.int .i64 r) ∧ Drawn0 w w' := by
 have HR0 := aMk hr0
 have HC0 := aMk hc0
 clear hr0 hc0
 have H : (cmp_Or_int.l0 k 0 l0 (l0.length : Int) 0) = some r := h
 clear h
 have H' := aMk H
 clear H
 go_enter Tryz.func185, Tryz.ntmps185
 go_wp2
 go_loopg [8] k (fun kq v8 w' => ∃ (x8_1 : Int), v8 = .int .i64 x8_1 ∧ Aside0 (cmp_Or_int.l0 kq 0 l0 (l0.length : Int) x8_1 = some r) ∧ Aside0 (kq ≤ k) ∧ Drawn0 w w')
 case atStart => exact ⟨(0), (by first | rfl | (simp; done) | (simp [*]; done)), H', ⟨qlR _⟩, by repeat (first | exact qDr _ | apply qDs)⟩
 case round =>
  clear H'
  obtain ⟨x8_1, rfl, HA, HK1, ⟨m1, rfl⟩⟩ := hrel
  cases gk with
  | zero => exact absurd HA.out (by simp [cmp_Or_int.l0])
  | succ k1 =>
   have H := HA.out
   clear HA
   simp only [cmp_Or_int.l0] at H
   by_cases c2 : x8_1 < (l0.length : Int)
   ·rw [if_pos c2] at H
    have c2b0 := qdT c2
    clear c2
    by_cases c3 : 0 ≤ x8_1
    ·rw [if_pos c3] at H
     have c3b0 := qdT c3
     clear c3
     by_cases c4 : x8_1 < (l0.length : Int)
     ·rw [if_pos c4] at H
      have c4b0 := qdT c4
      clear c4
      by_cases c5 : (rd l0 x8_1) = 0
      ·rw [if_pos c5] at H
       have c5b0 : ((rd l0 x8_1) == 0) = true := beq_iff_eq.mpr c5
       have c5b1 : ((rd l0 x8_1) != 0) = false := bne_eq_false_iff_eq.mpr c5
       clear c5
       have H' := aMk H
       clear H
       have p176 : 0 ≤ (x8_1 : Int) := qoD (by assumption)
       have q176 : x8_1 < (l0.length : Int) := qoD (by assumption)
       obtain ⟨ad176, e176, hx176_0⟩ := Kd.at_int HR0.out x8_1 p176 q176
       cases e176
       replace p176 := eq_true p176
       replace q176 := eq_true q176
       go_wp2
       go_roundg k1
       case measure => have := HK1.out; omega
       case rel => exact ⟨(wrap64 (x8_1 + 1)), (by first | rfl | (simp; done) | (simp [*]; done)), H', ⟨by have := HK1.out; omega⟩, by repeat (first | exact qDr _ | apply qDs)⟩
      ·rw [if_neg c5] at H
       have c5b0 : ((rd l0 x8_1) == 0) = false := beq_eq_false_iff_ne.mpr c5
       have c5b1 : ((rd l0 x8_1) != 0) = true := bne_iff_ne.mpr c5
       obtain rfl := qoI H
       have p176 : 0 ≤ (x8_1 : Int) := qoD (by assumption)
       have q176 : x8_1 < (l0.length : Int) := qoD (by assumption)
       obtain ⟨ad176, e176, hx176_0⟩ := Kd.at_int HR0.out x8_1 p176 q176
       cases e176
       replace p176 := eq_true p176
       replace q176 := eq_true q176
       go_wp2
       go_ret
       exact ⟨by first | rfl | (simp; done) | (simp [*]; done), by repeat (first | exact qDr _ | apply qDs)⟩
     ·rw [if_neg c4] at H
      exact absurd H (by simp)
    ·rw [if_neg c3] at H
     exact absurd H (by simp)
   ·rw [if_neg c2] at H
    have c2b0 := qdF c2
    clear c2
    obtain rfl := qoI H
    go_wp2
    go_ret
    exact ⟨by first | rfl | (simp; done) | (simp [*]; done), by repeat (first | exact qDr _ | apply qDs)⟩
end PKashidaStretches
end
section
namespace PKashidaStretches

attribute [local go_sem] max2_int min2_int max_two min_two max_three min_three max_four min_four
def kashida_text_behind.l0 : Nat → Int → List Int → List Int → Option (Int)
 | 0, _, _, _ => none
 | k + 1, x1, x194000, x194001 => if (wrap64 (x1 + 1)) < (x194000.length : Int) then (if 0 ≤ (wrap64 (x1 + 1)) then (if (wrap64 (x1 + 1)) < (x194001.length : Int) then (if (rd x194001 (wrap64 (x1 + 1))) = 1 then (kashida_text_behind.l0 k (wrap64 (x1 + 1)) x194000 x194001) else (some x1)) else (none)) else (none)) else (some x1)
def kashida_text_behind.f (k : Nat) (l0_0 : List Int) (l0_1 : List Int) (a1 : Int) : Option (Int) := kashida_text_behind.l0 k a1 l0_0 l0_1
theorem kashida_text_behind.calls (k : Nat) (A0_0 : Option Addr) (c0_0 : Nat) (l0_0 : List Int) (A0_1 : Option Addr) (c0_1 : Nat) (l0_1 : List Int) (a1 : Int) (r : Int) (w : World) (hr0_0 : Kd.C (Kd.int .i64) w A0_0 l0_0.length l0_0) (hc0_0 : l0_0.length ≤ c0_0) (hr0_1 : Kd.C (Kd.int .i64) w A0_1 l0_1.length l0_1) (hc0_1 : l0_1.length ≤ c0_1) (h : kashida_text_behind.f k l0_0 l0_1 a1 = some r) :
 Calls Tryz.prog 57 #[.agg #[.slice A0_0 l0_0.length c0_0, .slice A0_1 l0_1.length c0_1], .int .i64 a1] w fun e w' => e = .returned (.int .i64 r) ∧ Below w.heap.size w w' := by
 have hu82 := Tryz.underlying82
 have HR0_0 := aMk hr0_0
 have HC0_0 := aMk hc0_0
 clear hr0_0 hc0_0
 have HR0_1 := aMk hr0_1
 have HC0_1 := aMk hc0_1
 clear hr0_1 hc0_1
 have HB := aMk (qBr w.heap.size w)
 have H : (kashida_text_behind.l0 k a1 l0_0 l0_1) = some r := h
 clear h
 have H' := aMk H
 clear H
 go_enter Tryz.func57, Tryz.ntmps57
 go_wp2_with (first | ((with_reducible refine gate_dst (N := 2) rfl ?_); refine box_event ?hg (N := 2) ?hd (cs := #[.slice A0_0 l0_0.length c0_0, .slice A0_1 l0_1.length c0_1]) (t := 82) ?hr ?_; (case hd => rfl); (case hg => rfl); (case hr => go_simp; done); intro gb193 hg w3 hbox hb; have n0_ := aMk (qbP HB.out hb); have n1_ := aMk (hbox); have n2_ := aMk ((by rw [hg]; exact (qbZ HB.out) : w.heap.size ≤ gb193)); have n3_ := aMk ((by rw [hg]; exact (qbZ HB.out) : w.heap.size ≤ gb193)); clear HB; have HB := n0_; have BK193 := n1_; have GW193 := n2_; have GE193 := n3_; clear n0_ n1_ n2_ n3_; clear hb hbox hg))
 go_loopg [1] k (fun kq v1 w' => ∃ (x1_1 : Int), v1 = .int .i64 x1_1 ∧ Aside0 (kashida_text_behind.l0 kq x1_1 l0_0 l0_1 = some r) ∧ Aside0 (kq ≤ k) ∧ Aside0 (w'.heap[gb193]? = some (.cells #[(.slice A0_0 l0_0.length c0_0), (.slice A0_1 l0_1.length c0_1)] 82 (0, 0))) ∧ Aside0 (Below w.heap.size w w'))
 case atStart => exact ⟨(a1), rfl, H', ⟨qlR _⟩, ⟨by exact BK193.out⟩, ⟨by repeat (first | (with_reducible first | exact HB.out | apply qbA | apply qbN | apply qb1 | refine qbS ?_ GE193.out) | exact HB.out)⟩⟩
 case round =>
  clear H'
  obtain ⟨x1_1, rfl, HA, HK1, BK193, HB⟩ := hrel
  cases gk with
  | zero => exact absurd HA.out (by simp [kashida_text_behind.l0])
  | succ k1 =>
   have H := HA.out
   clear HA
   simp only [kashida_text_behind.l0] at H
   by_cases c4 : (wrap64 (x1_1 + 1)) < (l0_0.length : Int)
   ·rw [if_pos c4] at H
    have c4b0 := qdT c4
    clear c4
    obtain ⟨ji5, hji5⟩ : ∃ j_ : Int, (wrap64 (x1_1 + 1)) = j_ := ⟨_, rfl⟩
    replace H : (if 0 ≤ (ji5) then (if (ji5) < (l0_1.length : Int) then (if (rd l0_1 (ji5)) = 1 then (kashida_text_behind.l0 k1 ji5 l0_0 l0_1) else (some x1_1)) else (none)) else (none)) = some r := by first | (rw [hji5] at H; exact H) | (simp only [hji5] at H ⊢; exact H)
    (try rw [hji5] at c4b0)
    have hji5w : (IntKind.i64.wrap (x1_1 + 1)) = ji5 := (i64_w _).trans hji5
    by_cases c6 : 0 ≤ (ji5)
    ·rw [if_pos c6] at H
     have c6b0 := qdT c6
     clear c6
     by_cases c7 : (ji5) < (l0_1.length : Int)
     ·rw [if_pos c7] at H
      have c7b0 := qdT c7
      clear c7
      by_cases c8 : (rd l0_1 (ji5)) = 1
      ·rw [if_pos c8] at H
       have c8b0 : ((rd l0_1 (ji5)) == 1) = true := beq_iff_eq.mpr c8
       have c8b1 : ((rd l0_1 (ji5)) != 1) = false := bne_eq_false_iff_eq.mpr c8
       clear c8
       have H' := aMk H
       clear H
       have hcz9_0 : wr.cell? ⟨gb193, 0, none⟩ = some (.slice A0_0 l0_0.length c0_0) := (blk_cell BK193.out 0).trans rfl
       have hcz9_1 : wr.cell? ⟨gb193, 1, none⟩ = some (.slice A0_1 l0_1.length c0_1) := (blk_cell BK193.out 1).trans rfl
       have hfz9_0 := qbF BK193.out 0
       have hfz9_1 := qbF BK193.out 1
       have p194 : 0 ≤ ((ji5) : Int) := qoD (by assumption)
       have q194 : (ji5) < (l0_1.length : Int) := qoD (by assumption)
       obtain ⟨ad194, e194, hx194_0⟩ := Kd.at_int HR0_1.out (ji5) p194 q194
       cases e194
       replace hx194_0 := (HB.out.cell (qwL w _ hx194_0)).trans hx194_0
       replace p194 := eq_true p194
       replace q194 := eq_true q194
       go_wp2
       go_roundg k1
       case measure => have := HK1.out; omega
       case rel => exact ⟨(ji5), (by first | rfl | (simp; done) | (simp only [← hji5] <;> (first | rfl | simp)) | (simp [*]; done)), H', ⟨by have := HK1.out; omega⟩, ⟨by exact BK193.out⟩, ⟨by repeat (first | (with_reducible first | exact HB.out | apply qbA | apply qbN | apply qb1 | refine qbS ?_ GE193.out) | exact HB.out)⟩⟩
      ·rw [if_neg c8] at H
       have c8b0 : ((rd l0_1 (ji5)) == 1) = false := beq_eq_false_iff_ne.mpr c8
       have c8b1 : ((rd l0_1 (ji5)) != 1) = true := bne_iff_ne.mpr c8
       obtain rfl := qoI H
       have hcz10_0 : wr.cell? ⟨gb193, 0, none⟩ = some (.slice A0_0 l0_0.length c0_0) := (blk_cell BK193.out 0).trans rfl
       have hcz10_1 : wr.cell? ⟨gb193, 1, none⟩ = some (.slice A0_1 l0_1.length c0_1) := (blk_cell BK193.out 1).trans rfl
       have hfz10_0 := qbF BK193.out 0
       have hfz10_1 := qbF BK193.out 1
       have p194 : 0 ≤ ((ji5) : Int) := qoD (by assumption)
       have q194 : (ji5) < (l0_1.length : Int) := qoD (by assumption)
       obtain ⟨ad194, e194, hx194_0⟩ := Kd.at_int HR0_1.out (ji5) p194 q194
       cases e194
       replace hx194_0 := (HB.out.cell (qwL w _ hx194_0)).trans hx194_0
       replace p194 := eq_true p194
       replace q194 := eq_true q194
       go_wp2
       go_ret
       exact ⟨by first | rfl | (simp [errW_none, errW_some] <;> rfl) | (simp only [← hji5]; first | rfl | (simp [errW_none, errW_some] <;> rfl)) | (simp [*, errW_none, errW_some] <;> rfl), by repeat (first | (with_reducible first | exact HB.out | apply qbA | apply qbN | apply qb1 | refine qbS ?_ GE193.out) | exact HB.out)⟩
     ·rw [if_neg c7] at H
      exact absurd H (by simp)
    ·rw [if_neg c6] at H
     exact absurd H (by simp)
   ·rw [if_neg c4] at H
    have c4b0 := qdF c4
    clear c4
    obtain rfl := qoI H
    have hcz11_0 : wr.cell? ⟨gb193, 0, none⟩ = some (.slice A0_0 l0_0.length c0_0) := (blk_cell BK193.out 0).trans rfl
    have hcz11_1 : wr.cell? ⟨gb193, 1, none⟩ = some (.slice A0_1 l0_1.length c0_1) := (blk_cell BK193.out 1).trans rfl
    have hfz11_0 := qbF BK193.out 0
    have hfz11_1 := qbF BK193.out 1
    go_wp2
    go_ret
    exact ⟨rfl, by repeat (first | (with_reducible first | exact HB.out | apply qbA | apply qbN | apply qb1 | refine qbS ?_ GE193.out) | exact HB.out)⟩
def bits_Mul64.f (a0 : Int) (a1 : Int) : Option (Int × Int) := some (IntKind.u64.wrap ((IntKind.u64.wrap ((IntKind.u64.wrap ((a0 / 4294967296) * (a1 / 4294967296))) + ((IntKind.u64.wrap ((IntKind.u64.wrap ((a0 / 4294967296) * (Go.bits .and .u64 a1 4294967295))) + ((IntKind.u64.wrap ((Go.bits .and .u64 a0 4294967295) * (Go.bits .and .u64 a1 4294967295))) / 4294967296))) / 4294967296))) + ((IntKind.u64.wrap ((Go.bits .and .u64 (IntKind.u64.wrap ((IntKind.u64.wrap ((a0 / 4294967296) * (Go.bits .and .u64 a1 4294967295))) + ((IntKind.u64.wrap ((Go.bits .and .u64 a0 4294967295) * (Go.bits .and .u64 a1 4294967295))) / 4294967296))) 4294967295) + (IntKind.u64.wrap ((Go.bits .and .u64 a0 4294967295) * (a1 / 4294967296))))) / 4294967296)), IntKind.u64.wrap (a0 * a1))
theorem bits_Mul64.calls (a0 : Int) (a1 : Int) (r1 : Int) (r2 : Int) (w : World) (h : bits_Mul64.f a0 a1 = some (r1, r2)) :
 Calls Tryz.prog 187 #[.int .u64 a0, .int .u64 a1] w fun e w' => e = .returned (.tuple #[.int .u64 r1, .int .u64 r2]) ∧ Drawn0 w w' := by
 have H : (some (IntKind.u64.wrap ((IntKind.u64.wrap ((IntKind.u64.wrap ((a0 / 4294967296) * (a1 / 4294967296))) + ((IntKind.u64.wrap ((IntKind.u64.wrap ((a0 / 4294967296) * (Go.bits .and .u64 a1 4294967295))) + ((IntKind.u64.wrap ((Go.bits .and .u64 a0 4294967295) * (Go.bits .and .u64 a1 4294967295))) / 4294967296))) / 4294967296))) + ((IntKind.u64.wrap ((Go.bits .and .u64 (IntKind.u64.wrap ((IntKind.u64.wrap ((a0 / 4294967296) * (Go.bits .and .u64 a1 4294967295))) + ((IntKind.u64.wrap ((Go.bits .and .u64 a0 4294967295) * (Go.bits .and .u64 a1 4294967295))) / 4294967296))) 4294967295) + (IntKind.u64.wrap ((Go.bits .and .u64 a0 4294967295) * (a1 / 4294967296))))) / 4294967296)), IntKind.u64.wrap (a0 * a1))) = some (r1, r2) := h
 clear h
 simp only [Option.some.injEq, Prod.mk.injEq] at H
 obtain ⟨rfl, rfl⟩ := H
 go_enter Tryz.func187, Tryz.ntmps187
 go_wp2
 go_ret2
 exact ⟨by first | rfl | (simp; done) | (simp [*]; done), by repeat (first | exact qDr _ | apply qDs)⟩
def bits_Mul.f (a0 : Int) (a1 : Int) : Option (Int × Int) := (bits_Mul64.f a0 a1).bind fun bt195 => (some (bt195.1, bt195.2))
theorem bits_Mul.calls (a0 : Int) (a1 : Int) (r1 : Int) (r2 : Int) (w : World) (h : bits_Mul.f a0 a1 = some (r1, r2)) :
 Calls Tryz.prog 117 #[.int .u64 a0, .int .u64 a1] w fun e w' => e = .returned (.tuple #[.int .u64 r1, .int .u64 r2]) ∧ Drawn0 w w' := by
 have H : ((bits_Mul64.f a0 a1).bind fun bt195 => (some (bt195.1, bt195.2))) = some (r1, r2) := h
 clear h
 replace H := qoB.mp H
 obtain ⟨⟨t195, t196⟩, A30, H⟩ := H
 try dsimp only at H
 have A3 := aMk A30; clear A30
 simp only [Option.some.injEq, Prod.mk.injEq] at H
 obtain ⟨rfl, rfl⟩ := H
 go_enter Tryz.func117, Tryz.ntmps117
 go_wp2_with (first | ((with_reducible refine gate_callee (f := 187) rfl ?_); refine goesL_ (some 25) rfl rfl Tryz.func187 (by kernel_rfl) rfl #[.int .u64 a0, .int .u64 a1] rfl (by (try simp only [lm0, lm1, lm2]); first | done | rfl | (simp only [lm3, lm4]; rfl)) ?_; (with_reducible refine (bits_Mul64.calls a0 a1 t195 t196 _ A3.out).mono ?_); rintro e w' ⟨rfl, ⟨nd, rfl⟩⟩; refine ⟨_, rfl, ?_⟩))
 go_ret2
 exact ⟨by first | rfl | (simp; done) | (simp [*]; done), by repeat (first | exact qDr _ | apply qDs)⟩
end PKashidaStretches
end
end Go.Proofs.YtemhccjjcioodaaGreat
