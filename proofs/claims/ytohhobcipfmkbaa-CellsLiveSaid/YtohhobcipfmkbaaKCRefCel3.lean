/- Texts of this claim, cut to what it needs. -/
import Derived.Deep.Slices
import Derived.Deep.Fields
import Derived.ChangeSame
import Derived.Test.YtohhobcipfmkbaaKCFinQ
import Derived.Test.YtohhobcipfmkbaaKCFin15
import Derived.Test.YtohhobcipfmkbaaKCCells1
set_option linter.unusedSimpArgs false
set_option linter.unusedVariables false
section
namespace Go.Proofs.Ytohhobcipfmkbaa.CRow
open Go.RowKit Go.ChangeShapes Go.WideShapes Go.Deep Go.Proofs.YtohhobcipfmkbaaW.PrintWords Go.Proofs.Ytohhobcipfmkbaa.PClusterFinest
section
variable {H : Type} {enc : TypeId × Value → H} {w : World} {base : Nat} {spare : Nat → Bool} {held : Bool}
theorem cellsOf33 : Try.prog.cellsOf 33 = 2 := by kernel_rfl
theorem cellsOf3 : Try.prog.cellsOf 3 = 1 := by kernel_rfl
theorem read33 {n : Nat} {cs : List Value} {x : DataW H × List MemPlace} (h : DataW.trod enc Try.prog w base spare held n 33 cs = some x) : ∃ s : S33, cs = [.int .i64 s.f0, .int .i64 s.f1] := by
 obtain ⟨y0, y1, m, _, hl, h0, h1⟩ := trod_struct2 Try.underlying33 h
 rw [cellsOf33] at hl
 dsimp only at h0 h1
 rw [cellsOf3] at h0 h1
 obtain ⟨a, ha, _⟩ := DataW.trod_int Try.underlying3 h0
 obtain ⟨b, hb, _⟩ := DataW.trod_int Try.underlying3 h1
 match cs, hl with
 | [c0, c1], _ =>
  simp at ha hb
  exact ⟨⟨a, b⟩, by rw [ha, hb]⟩
end
end Go.Proofs.Ytohhobcipfmkbaa.CRow
namespace Go.Proofs.Ytohhobcipfmkbaa.PClusterFinest
open Go.RowKit Go.Proofs.YtohhobcipfmkbaaW.PrintWords Go.Proofs.YtohhobcipfmkbaaW.PrintLast Go.Proofs.YtohhobcipfmkbaaW.PrintMore
attribute [local go_sem] max2_int min2_int max_two min_two max_three min_three max_four min_four   -- for this text's walks alone
attribute [local go_sem high] eqA45
def api_Cluster.l0 : Nat → List (S45) → List (S45) → Int → Int → Option (Bool)
 | 0, _, _, _, _ => none
 | k + 1, x0, x1, x12, x13 => if x13 < x12 then (if 0 ≤ x13 then (if x13 < (x0.length : Int) then (if x13 < (x1.length : Int) then (if ((!(((rd_T45 x0 x13).f0.f0) == ((rd_T45 x1 x13).f0.f0)) || (!(((rd_T45 x0 x13).f0.f1) == ((rd_T45 x1 x13).f0.f1)))) || ((!(((rd_T45 x0 x13).f1.f0) == ((rd_T45 x1 x13).f1.f0)) || (!(((rd_T45 x0 x13).f1.f1) == ((rd_T45 x1 x13).f1.f1)))))) = true then (some false) else (api_Cluster.l0 k x0 x1 x12 (wrap64 (x13 + 1)))) else (none)) else (none)) else (none)) else (some true)
def api_Cluster.f (k : Nat) (l0 : List (S45)) (l1 : List (S45)) : Option (Bool) := if (l0.length : Int) = (l1.length : Int) then (api_Cluster.l0 k l0 l1 (l0.length : Int) 0) else (some false)
set_option maxHeartbeats 8000000 in
set_option maxRecDepth 100000 in
theorem api_Cluster.calls (k : Nat) (A0 : Option Addr) (c0 : Nat) (l0 : List (S45)) (A1 : Option Addr) (c1 : Nat) (l1 : List (S45)) (r : Bool) (w : World) (hr0 : Kd.C k45 w A0 l0.length l0) (hc0 : l0.length ≤ c0) (hr1 : Kd.C k45 w A1 l1.length l1) (hc1 : l1.length ≤ c1) (h : api_Cluster.f k l0 l1 = some r) :
 Calls Try.prog 23 #[.slice A0 l0.length c0, .slice A1 l1.length c1] w fun e w' => e = .returned (.bool r) ∧ Drawn0 w w' := by
 have hu45 := Try.underlying45
 have HR0 := Aside0.mk hr0
 have HC0 := Aside0.mk hc0
 clear hr0 hc0
 have HR1 := Aside0.mk hr1
 have HC1 := Aside0.mk hc1
 clear hr1 hc1
 have H : (if (l0.length : Int) = (l1.length : Int) then (api_Cluster.l0 k l0 l1 (l0.length : Int) 0) else (some false)) = some r := h
 clear h
 by_cases c3 : (l0.length : Int) = (l1.length : Int)
 ·rw [if_pos c3] at H
  have c3b0 : ((l0.length : Int) == (l1.length : Int)) = true := beq_iff_eq.mpr c3
  have c3b1 : ((l0.length : Int) != (l1.length : Int)) = false := bne_eq_false_iff_eq.mpr c3
  have c3b2 : (l0.length == l1.length) = true := by first | simpa using c3 | (simp at c3 ⊢; omega)
  clear c3
  have H' := Aside0.mk H
  clear H
  go_enter Try.func23, Try.ntmps23
  go_wp2
  repeat (go_quiet (fail); try go_wp2)
  go_loopg [13] k (fun kq v13 w' => ∃ (x13_1 : Int), v13 = .int .i64 x13_1 ∧ Aside0 (api_Cluster.l0 kq l0 l1 (l0.length : Int) x13_1 = some r) ∧ Aside0 (kq ≤ k) ∧ Drawn0 w w')
  case atStart => exact ⟨(0), (by first | rfl | (simp; done) | (simp [*]; done)), H', ⟨Nat.le_refl _⟩, by repeat (first | exact Drawn0.refl _ | apply Drawn0.step)⟩
  case round =>
   clear H'
   try clear c1
   try clear c2
   try clear p2
   try clear c3
   try clear c3b0
   try clear c3b1
   try clear c3b2
   obtain ⟨x13_1, rfl, HA, HK1, ⟨m1, rfl⟩⟩ := hrel
   cases gk with
   | zero => exact absurd HA.out (by simp [api_Cluster.l0])
   | succ k1 =>
    have H := HA.out
    clear HA
    simp only [api_Cluster.l0] at H
    by_cases c4 : x13_1 < (l0.length : Int)
    ·rw [if_pos c4] at H
     have c4b0 : decide (x13_1 < (l0.length : Int)) = true := decide_eq_true c4
     clear c4
     by_cases c5 : 0 ≤ x13_1
     ·rw [if_pos c5] at H
      have c5b0 : decide (0 ≤ x13_1) = true := decide_eq_true c5
      clear c5
      by_cases c6 : x13_1 < (l0.length : Int)
      ·rw [if_pos c6] at H
       have c6b0 : decide (x13_1 < (l0.length : Int)) = true := decide_eq_true c6
       clear c6
       by_cases c7 : x13_1 < (l1.length : Int)
       ·rw [if_pos c7] at H
        have c7b0 : decide (x13_1 < (l1.length : Int)) = true := decide_eq_true c7
        clear c7
        by_cases c8 : ((!(((rd_T45 l0 x13_1).f0.f0) == ((rd_T45 l1 x13_1).f0.f0)) || (!(((rd_T45 l0 x13_1).f0.f1) == ((rd_T45 l1 x13_1).f0.f1)))) || ((!(((rd_T45 l0 x13_1).f1.f0) == ((rd_T45 l1 x13_1).f1.f0)) || (!(((rd_T45 l0 x13_1).f1.f1) == ((rd_T45 l1 x13_1).f1.f1)))))) = true
        ·rw [if_pos c8] at H
         have c8b0 : ((!(((rd_T45 l0 x13_1).f0.f0) == ((rd_T45 l1 x13_1).f0.f0)) || (!(((rd_T45 l0 x13_1).f0.f1) == ((rd_T45 l1 x13_1).f0.f1)))) || ((!(((rd_T45 l0 x13_1).f1.f0) == ((rd_T45 l1 x13_1).f1.f0)) || (!(((rd_T45 l0 x13_1).f1.f1) == ((rd_T45 l1 x13_1).f1.f1)))))) = true := c8
         clear c8
         obtain rfl := Option.some.inj H
         have p101 : 0 ≤ (x13_1 : Int) := of_decide_eq_true (by first | (with_reducible assumption) | assumption)
         have q101 : x13_1 < (l0.length : Int) := of_decide_eq_true (by first | (with_reducible assumption) | assumption)
         obtain ⟨ad101, e101, hx101_0, hx101_1, hx101_2, hx101_3⟩ := at_T45 HR0.out x13_1 p101 q101
         cases e101
         replace p101 := eq_true p101
         replace q101 := eq_true q101
         have p102 : 0 ≤ (x13_1 : Int) := of_decide_eq_true (by first | (with_reducible assumption) | assumption)
         have q102 : x13_1 < (l1.length : Int) := of_decide_eq_true (by first | (with_reducible assumption) | assumption)
         obtain ⟨ad102, e102, hx102_0, hx102_1, hx102_2, hx102_3⟩ := at_T45 HR1.out x13_1 p102 q102
         cases e102
         replace p102 := eq_true p102
         replace q102 := eq_true q102
         go_wp2
         repeat (go_quiet (fail); try go_wp2)
         go_ret
         exact ⟨by first | rfl | (simp; done) | (simp [*]; done), by repeat (first | exact Drawn0.refl _ | apply Drawn0.step)⟩
        ·rw [if_neg c8] at H
         have c8b0 : ((!(((rd_T45 l0 x13_1).f0.f0) == ((rd_T45 l1 x13_1).f0.f0)) || (!(((rd_T45 l0 x13_1).f0.f1) == ((rd_T45 l1 x13_1).f0.f1)))) || ((!(((rd_T45 l0 x13_1).f1.f0) == ((rd_T45 l1 x13_1).f1.f0)) || (!(((rd_T45 l0 x13_1).f1.f1) == ((rd_T45 l1 x13_1).f1.f1)))))) = false := by simpa using c8
         clear c8
         have H' := Aside0.mk H
         clear H
         have p101 : 0 ≤ (x13_1 : Int) := of_decide_eq_true (by first | (with_reducible assumption) | assumption)
         have q101 : x13_1 < (l0.length : Int) := of_decide_eq_true (by first | (with_reducible assumption) | assumption)
         obtain ⟨ad101, e101, hx101_0, hx101_1, hx101_2, hx101_3⟩ := at_T45 HR0.out x13_1 p101 q101
         cases e101
         replace p101 := eq_true p101
         replace q101 := eq_true q101
         have p102 : 0 ≤ (x13_1 : Int) := of_decide_eq_true (by first | (with_reducible assumption) | assumption)
         have q102 : x13_1 < (l1.length : Int) := of_decide_eq_true (by first | (with_reducible assumption) | assumption)
         obtain ⟨ad102, e102, hx102_0, hx102_1, hx102_2, hx102_3⟩ := at_T45 HR1.out x13_1 p102 q102
         cases e102
         replace p102 := eq_true p102
         replace q102 := eq_true q102
         go_wp2
         repeat (go_quiet (fail); try go_wp2)
         go_roundg k1
         case measure => have := HK1.out; omega
         case rel => exact ⟨(wrap64 (x13_1 + 1)), (by first | rfl | (simp; done) | (simp [*]; done)), H', ⟨by have := HK1.out; omega⟩, by repeat (first | exact Drawn0.refl _ | apply Drawn0.step)⟩
       ·rw [if_neg c7] at H
        exact absurd H (by simp)
      ·rw [if_neg c6] at H
       exact absurd H (by simp)
     ·rw [if_neg c5] at H
      exact absurd H (by simp)
    ·rw [if_neg c4] at H
     have c4b0 : decide (x13_1 < (l0.length : Int)) = false := decide_eq_false c4
     clear c4
     obtain rfl := Option.some.inj H
     go_wp2
     repeat (go_quiet (fail); try go_wp2)
     go_ret
     exact ⟨by first | rfl | (simp; done) | (simp [*]; done), by repeat (first | exact Drawn0.refl _ | apply Drawn0.step)⟩
 ·rw [if_neg c3] at H
  have c3b0 : ((l0.length : Int) == (l1.length : Int)) = false := beq_eq_false_iff_ne.mpr c3
  have c3b1 : ((l0.length : Int) != (l1.length : Int)) = true := bne_iff_ne.mpr c3
  have c3b2 : (l0.length == l1.length) = false := by first | simpa using c3 | (simp at c3 ⊢; omega)
  obtain rfl := Option.some.inj H
  go_enter Try.func23, Try.ntmps23
  go_wp2
  repeat (go_quiet (fail); try go_wp2)
  go_ret
  exact ⟨by first | rfl | (simp; done) | (simp [*]; done), by repeat (first | exact Drawn0.refl _ | apply Drawn0.step)⟩
end Go.Proofs.Ytohhobcipfmkbaa.PClusterFinest
end
section
namespace Go.Proofs.Ytohhobcipfmkbaa.CSort
open Go.RowKit Go.Proofs.YtohhobcipfmkbaaW.PrintWords Go.Proofs.YtohhobcipfmkbaaW.PrintMore Go.Proofs.YtohhobcipfmkbaaW.PrintLast Go.Proofs.Ytohhobcipfmkbaa.U Go.Proofs.Ytohhobcipfmkbaa.PClusterFinest
open Go.Shelf
shelf_lay_g SlLaysF0.n20 Slsf 20 at Try 91 as lins
end Go.Proofs.Ytohhobcipfmkbaa.CSort
end
section
namespace Go.Proofs.Ytohhobcipfmkbaa.CFin
open Go.RowKit Go.Proofs.YtohhobcipfmkbaaW.PrintWords Go.Proofs.YtohhobcipfmkbaaW.PrintMore Go.Proofs.YtohhobcipfmkbaaW.PrintLast Go.Proofs.Ytohhobcipfmkbaa.U Go.Proofs.Ytohhobcipfmkbaa.PClusterFinest Go.Proofs.Ytohhobcipfmkbaa.UFinest Go.Proofs.Ytohhobcipfmkbaa.UFinEv
def fewB : List S45 → Nat → Bool
 | [], _ => true
 | x :: r, i => if 30 ≤ i ∨ x.f0.f1 > 60 ∨ x.f1.f1 > 60 then false else fewB r (i + 1)
theorem few_loop (l : List S45) (hl : l.length ≤ 9223372036854775807) (d : Nat) : ∀ i : Nat, i + d = l.length → Ev (fun k => naskhlaw04_few.l0 k l (l.length : Int) (i : Int)) (fewB (l.drop i) i) := by
 induction d with
 | zero =>
  intro i hd
  rw [List.drop_of_length_le (by omega), fewB]
  exact Ev.step (fun k => by rw [naskhlaw04_few.l0]) (ev_neg (by omega) (ev_now _))
 | succ d ih =>
  intro i hd
  have hlt : i < l.length := by omega
  rw [List.drop_eq_getElem_cons hlt, fewB]
  refine Ev.step (fun k => by rw [naskhlaw04_few.l0]) (ev_pos (by omega) (ev_pos (by omega) (ev_pos (by omega) ?_)))
  rw [rd45 hlt]
  by_cases h1 : (i : Int) ≥ 30
  ·rw [if_pos (.inl (by omega))]; exact ev_pos h1 (ev_now _)
  ·refine ev_neg h1 ?_
   by_cases h2 : l[i].f0.f1 > 60
   ·rw [if_pos (.inr (.inl h2))]; exact ev_pos h2 (ev_now _)
   ·refine ev_neg h2 ?_
    by_cases h3 : l[i].f1.f1 > 60
    ·rw [if_pos (.inr (.inr h3))]; exact ev_pos h3 (ev_now _)
    ·rw [if_neg (by omega)]
     refine ev_neg h3 ?_
     rw [w64 (by omega) (by omega), show (i : Int) + 1 = ((i + 1 : Nat) : Int) by omega]
     exact ih (i + 1) (by omega)
theorem nil_slk (w : World) : SLk k45 w (.slice none 0 0) [] := ⟨none, 0, rfl, Nat.le_refl _, rfl, by simp, fun h => absurd h (Nat.lt_irrefl 0)⟩
end Go.Proofs.Ytohhobcipfmkbaa.CFin
namespace Go.Proofs.Ytohhobcipfmkbaa.CFin
open Go.RowKit Go.Maps Go.Proofs.YtohhobcipfmkbaaW.PrintWords Go.Proofs.YtohhobcipfmkbaaW.PrintMore Go.Proofs.YtohhobcipfmkbaaW.PrintLast Go.Proofs.Ytohhobcipfmkbaa.U Go.Proofs.Ytohhobcipfmkbaa.PClusterFinest Go.Proofs.Ytohhobcipfmkbaa.UFinest Go.Proofs.Ytohhobcipfmkbaa.UFinEv
theorem eq45_loop (xs : List S45) (hm : xs.length ≤ 1000000) (n : Nat) : ∀ i : Nat, i + n = xs.length → Ev (fun k => api_Cluster.l0 k xs xs (xs.length : Int) i) true := by
 induction n with
 | zero =>
  intro i hi
  refine Ev.step (fun k => by rw [api_Cluster.l0]) (ev_neg (by omega) (ev_now _))
 | succ n ih =>
  intro i hi
  refine Ev.step (fun k => by rw [api_Cluster.l0]) (ev_pos (by omega) (ev_pos (by omega) (ev_pos (by omega) (ev_pos (by omega) (ev_neg (by simp) ?_)))))
  rw [w64 (by omega) (by omega)]
  exact ih (i + 1) (by omega)
theorem eq45_c {u v : Value} {xs : List S45} {w : World} (h1 : SLk k45 w u xs) (h2 : SLk k45 w v xs) (hm : xs.length ≤ 1000000) : Calls Try.prog 23 #[u, v] w fun e w' => e = .returned (.bool true) ∧ Drawn0 w w' := by
 obtain ⟨A, c, rfl, hc, hC⟩ := h1
 obtain ⟨B, d, rfl, hd, hD⟩ := h2
 have he : Ev (fun k => api_Cluster.f k xs xs) true := ev_pos rfl (eq45_loop xs hm xs.length 0 (by omega))
 obtain ⟨k, hk⟩ := ev_some he
 exact api_Cluster.calls k A c xs B d xs true w hC hc hD hd hk
end Go.Proofs.Ytohhobcipfmkbaa.CFin
end
section
namespace Go.Proofs.Ytohhobcipfmkbaa.Cel
open Go.RowKit Go.Maps Go.Proofs.YtohhobcipfmkbaaW.PrintWords Go.Proofs.YtohhobcipfmkbaaW.PrintMore Go.Proofs.YtohhobcipfmkbaaW.PrintLast Go.Proofs.Ytohhobcipfmkbaa.U Go.Proofs.Ytohhobcipfmkbaa.PClusterFinest Go.Proofs.Ytohhobcipfmkbaa.UFinest Go.Proofs.Ytohhobcipfmkbaa.UGroups Go.Proofs.Ytohhobcipfmkbaa.UFinEv
open Go.Proofs.Ytohhobcipfmkbaa.CFin (rd33 ev_some finest_c finest_bad cluS toS eq45_c nil_slk drawn0_below)
theorem eqI_loop (xs : List Int) (hm : xs.length ≤ 1000000000) (n : Nat) : ∀ i : Nat, i + n = xs.length → Ev (fun k => slices_Equal_int_int.l0 k xs xs (xs.length : Int) i) true := by
 induction n with
 | zero =>
  intro i hi
  exact Ev.step (fun k => by rw [slices_Equal_int_int.l0]) (ev_neg (by omega) (ev_now _))
 | succ n ih =>
  intro i hi
  refine Ev.step (fun k => by rw [slices_Equal_int_int.l0]) (ev_pos (by omega) (ev_pos (by omega) (ev_pos (by omega) (ev_pos (by omega) (ev_pos rfl ?_)))))
  rw [w64 (by omega) (by omega)]
  exact ih (i + 1) (by omega)
theorem eqI_c {u v : Value} {xs : List Int} {w : World} (h1 : SL w u xs) (h2 : SL w v xs) (hm : xs.length ≤ 1000000000) : Calls Try.prog 16 #[u, v] w fun e w' => e = .returned (.bool true) ∧ Below w.heap.size w w' := by
 obtain ⟨A, c, rfl, hc, hC⟩ := h1
 obtain ⟨B, d, rfl, hd, hD⟩ := h2
 have he : Ev (fun k => slices_Equal_int_int.f k xs xs) true := ev_pos rfl (eqI_loop xs hm xs.length 0 (by omega))
 obtain ⟨k, hk⟩ := ev_some he
 refine (slices_Equal_int_int.calls k A c xs B d xs true w hC hc hD hd hk).mono ?_
 rintro e w' ⟨rfl, hb⟩
 first | exact ⟨rfl, hb⟩ | exact ⟨rfl, drawn0_below hb⟩
theorem aw_links : linksOf [[], [7, 8]] (groups 2 []) = ([⟨⟨1, 2⟩, ⟨0, 2⟩⟩], 2) := by kernel_rfl
abbrev awK : List S45 := [⟨⟨1, 2⟩, ⟨0, 2⟩⟩]
theorem awK_wrong : wrongR (2 : Nat) (2 : Nat) awK = 0 := by decide
theorem awK_cluS {L : Lab} (h : FinOk 2 2 (awK.map lkOf) L) : cluS 2 2 L 2 = [⟨⟨0, 2⟩, ⟨0, 2⟩⟩] := by
 have hb := h.closed.both ⟨1, 2, 0, 2⟩ (by simp [lkOf])
 have ho := h.closed.outs ⟨1, 2, 0, 2⟩ (by simp [lkOf]) 1 (by decide) (by decide)
 have ha := h.closed.ahead 0 (by decide) (by decide)
 have e1 : L 1 = L 2 := hb
 have e2 : L 2 = L 3 := ho
 have e3 : L 0 = L 1 := ha
 unfold cluS cluTo
 simp [List.range_succ, List.filterMap, hullL, e1, e3, ← e2, toS]
theorem sl78 {w : World} {g : Nat} (h : w.heap[g]? = some (.cells #[.int .i64 7, .int .i64 8] 3 (0, 0))) : SL w (.slice (some ⟨g, 0, none⟩) 2 2) [7, 8] := by
 refine ⟨_, _, rfl, Nat.le_refl _, rfl, by simp, fun _ => ⟨_, rfl, fun j p hj => ?_⟩⟩
 match j, hj with
 | 0, hj =>
  obtain rfl := Option.some.inj hj
  refine ⟨[.int .i64 7], rfl, rfl, fun k u hu => ?_⟩
  cases k with
  | zero => rw [add_plain, blk_cell h]; exact hu
  | succ k => simp at hu
 | 1, hj =>
  obtain rfl := Option.some.inj hj
  refine ⟨[.int .i64 8], rfl, rfl, fun k u hu => ?_⟩
  cases k with
  | zero => rw [add_plain, blk_cell h]; exact hu
  | succ k => simp at hu
theorem slClu {W : World} {b : Nat} {p : S45} (h : W.heap[b]? = some (.cells #[.int .i64 p.f0.f0, .int .i64 p.f0.f1, .int .i64 p.f1.f0, .int .i64 p.f1.f1] 45 (0, 0))) : SLk k45 W (.slice (some ⟨b, 0, none⟩) 1 1) [p] := by
 refine ⟨_, _, rfl, Nat.le_refl _, rfl, by simp, fun hn => ⟨_, rfl, fun j x hj => ?_⟩⟩
 match j, hj with
 | 0, hj =>
  obtain rfl := Option.some.inj hj
  refine ⟨_, rfl, k45_mk W _, fun i u hu => ?_⟩
  rw [show (⟨b, 0, none⟩ : Addr).add (0 * k45.sz + i) = ⟨b, i, none⟩ by rw [add_plain]; simp, blk_cell h]
  match i, hu with
  | 0, hu => exact hu
  | 1, hu => exact hu
  | 2, hu => exact hu
  | 3, hu => exact hu
set_option maxRecDepth 100000 in
set_option maxHeartbeats 4000000 in
theorem awake12_c {w : World} : Calls Try.prog 12 #[] w fun e w' => e = .returned (.bool true) ∧ Below w.heap.size w w' := by
 go_enter Try.func12, Try.ntmps12
 go_wp2_with (first | (go_at_call 13; refine (new_c 2 (by decide)).mono ?_; rintro e w1 ⟨b, rfl, hc, hb⟩; have HC1 := Aside0.mk hc; have HB1 := Aside0.mk hb; clear hc hb) | (go_at_call 24; refine (set_c (CellsAt.below HC1.out (below_alloc (Below.refl _ _) _)) 1 (by simp) (sl78 (MapKept.heap_alloc w1 _).1) (by simp)).mono ?_; rintro e w2 ⟨rfl, hc, he⟩; have HC2 : Aside0 (CellsAt 51 w2 (fun q => w.heap.size ≤ q) b [[], [7, 8]] []) := ⟨CellsAt.mono hc (fun q hq => hq.elim (fun h => h) (fun h => Nat.le_trans HB1.out.size (Nat.le_trans (below_alloc (Below.refl _ _) _).size h)))⟩; have HB2 : Aside0 (Below w.heap.size w w2) := ⟨((Eff.of_below (below_alloc HB1.out _) (fun _ => False)).then_ he (fun k hk => .inr hk)).below (Nat.le_refl _) (fun _ h => h.elim)⟩; clear hc he) | (go_at_call 21; refine (clusters_c HC2.out (by decide) (by decide) (by decide) (fun u r w' => (0 : Int) = r ∧ SLk k45 w' u [⟨⟨0, 2⟩, ⟨0, 2⟩⟩]) (fun w1 u hs hb => by rw [show linksOf [[], [7, 8]] (groups ([[], [7, 8]] : List (List Int)).length []) = (awK, 2) from aw_links] at hs ⊢; exact (finest_c 2 2 hs (by decide) (by decide) (by decide) (by decide) awK_wrong).mono (by rintro e w' ⟨u, L2, rfl, hf, hR, hb⟩; rw [awK_cluS hf] at hR; exact ⟨_, _, rfl, ⟨rfl, SLk.of_R hR⟩, hb⟩))).mono ?_; rintro e w3 ⟨u3, r, rfl, ⟨rfl, hs⟩, hb⟩; have HU3 := Aside0.mk hs; have HC3 := Aside0.mk (HC2.out.below hb); have HB3 : Aside0 (Below w.heap.size w w3) := ⟨below_step HB2.out hb⟩; clear hs hb) | (go_at_call 17; refine (text_c HC3.out (by decide) (by decide)).mono ?_; rintro e w4 ⟨u4, rfl, hu, hb⟩; have HT4 : Aside0 (SL w4 u4 [7, 8]) := ⟨SLk.of_R hu⟩; have HU4 := Aside0.mk (SLk.below HU3.out hb); have HB4 : Aside0 (Below w.heap.size w w4) := ⟨below_step HB3.out hb⟩; clear hu hb) | (go_at_call 16; refine (eqI_c (SLk.below HT4.out (below_alloc (Below.refl _ _) _)) (sl78 (MapKept.heap_alloc w4 _).1) (by simp)).mono ?_; rintro e w5 ⟨rfl, hb⟩; have HB5 : Aside0 (Below w.heap.size w w5) := ⟨below_step (below_alloc HB4.out _) hb⟩; have HU5 := Aside0.mk (SLk.below (SLk.below HU4.out (below_alloc (Below.refl _ _) _)) hb); clear hb) | (go_at_call 23; refine (eq45_c (xs := [⟨⟨0, 2⟩, ⟨0, 2⟩⟩]) (SLk.below HU5.out (below_alloc (Below.refl _ _) _)) (slClu (MapKept.heap_alloc w5 _).1) (by simp)).mono ?_; rintro e w6 ⟨rfl, hd⟩; have HB6 : Aside0 (Below w.heap.size w w6) := ⟨below_step (below_alloc HB5.out _) (drawn0_below hd)⟩; clear hd))
 go_ret
 exact ⟨rfl, HB6.out⟩
end Go.Proofs.Ytohhobcipfmkbaa.Cel
end
section
namespace Go.Proofs.Ytohhobcipfmkbaa.Cel
open Go.RowKit Go.Proofs.YtohhobcipfmkbaaW.PrintWords Go.Proofs.YtohhobcipfmkbaaW.PrintMore Go.Proofs.YtohhobcipfmkbaaW.PrintLast Go.Proofs.Ytohhobcipfmkbaa.U Go.Proofs.Ytohhobcipfmkbaa.PClusterFinest Go.Proofs.Ytohhobcipfmkbaa.UGroups Go.Proofs.Ytohhobcipfmkbaa.UFinEv
open Go.Proofs.Ytohhobcipfmkbaa.CFin (rd33 info33 cells33 one33)
set_option maxRecDepth 100000 in
set_option maxHeartbeats 4000000 in
theorem refNew_bad (n : Int) (h : n < 0 ∨ n > 16777216) {w : World} : Calls Try.prog 14 #[.int .i64 n] w fun e w' => e = .returned (.tuple #[.pointer none, .int .i64 1]) ∧ Below w.heap.size w w' := by
 by_cases h0 : n < 0
 ·clear h
  go_enter Try.func14, Try.ntmps14
  go_wp2
  refine bodyPost_ret (results_tmp2 rfl _ _ _) rfl ?_
  exact ⟨rfl, Below.refl _ _⟩
 ·have h1 : n > 16777216 := by omega
  clear h
  go_enter Try.func14, Try.ntmps14
  go_wp2
  refine bodyPost_ret (results_tmp2 rfl _ _ _) rfl ?_
  exact ⟨rfl, Below.refl _ _⟩
set_option maxRecDepth 100000 in
set_option maxHeartbeats 4000000 in
theorem refNew_c (n : Nat) (h : n ≤ 16777216) {w : World} : Calls Try.prog 14 #[.int .i64 n] w fun e w' => ∃ b, e = .returned (.tuple #[ptr b, .int .i64 0]) ∧ CellsAt 68 w' (fun k => w.heap.size ≤ k) b (List.replicate n []) [] ∧ Below w.heap.size w w' := by
 have h0 : ¬ (n : Int) < 0 := by omega
 have h1 : ¬ (n : Int) > 16777216 := by omega
 have HN : Aside0 (n ≤ 16777216) := ⟨h⟩
 clear h
 go_enter Try.func14, Try.ntmps14
 go_wp2_with (first | ((with_reducible refine gate_dst (N := 11) rfl ?_); refine Kd.R_make KH (w0 := w) w.heap.size 31 rfl rfl 47 (.tmp 10) (.tmp 10) rfl (n : Int) (by first | (go_simp; done) | (go_simp; rfl)) (by first | (go_simp; done) | (go_simp; rfl)) Try.underlying47 (.slice none 0 0) 24 info31 rfl (by decide) (by omega) ((none, 0, 0) : Hd) (ok := fun k => w.heap.size ≤ k) (okp := fun _ => False) rfl (fun _ h => h.elim) (Nat.le_refl _) (by omega) (by have := HN.out; simp only [Int.toNat_natCast]; omega) (Below.refl _ _) (Nat.le_refl _) ?_; intro v8 w1 hv hb hg hat; rw [Int.toNat_natCast] at hv; obtain ⟨A1, c1, e8⟩ := Kd.R_slice hv; rw [List.length_replicate] at e8; subst e8; have HR1 := Aside0.mk (RowAt.bound (RowAt.nils hv)); have HB1 := Aside0.mk hb; clear hv hb hg hat) | ((with_reducible refine gate_dst (N := 13) rfl ?_); refine box_event ?hg (N := 13) ?hd (cs := #[.slice A1 n c1, .slice none 0 0]) (t := 68) ?hr ?_; (case hd => rfl); (case hg => rfl); (case hr => first | (go_simp; done) | (go_simp; rfl)); intro gb hg w6 hbox hb; have HX := Aside0.mk hbox; have HG : Aside0 (w.heap.size ≤ gb) := ⟨by rw [hg]; exact HB1.out.size⟩; have HR6 : Aside0 (RowAt w6 (fun k => w.heap.size ≤ k ∧ k < gb) _ _) := ⟨by rw [hg]; exact (HR1.out.kept (S := fun _ => False) (Kept.of_below hb _) (fun _ _ h => h))⟩; have HB6 : Aside0 (Below w.heap.size w w6) := ⟨below_step HB1.out hb⟩; clear hg hbox hb))
 refine bodyPost_ret (results_tmp2 rfl _ _ _) rfl ?_
 exact ⟨gb, rfl, ⟨fun k => w.heap.size ≤ k ∧ k < gb, fun _ => False, _, _, fun k hk => ⟨hk.1, by omega⟩, fun _ h => h.elim, HG.out, HX.out, HR6.out, Kd.R_nil _ _ _ _ _⟩, HB6.out⟩
set_option maxRecDepth 100000 in
set_option maxHeartbeats 4000000 in
theorem refSet_bad {w : World} {D : Nat → Prop} {b : Nat} {L : List (List Int)} {J : List S33} (h : CellsAt 68 w D b L J) (at_ : Int) (hat : ¬ (0 ≤ at_ ∧ at_ < (L.length : Int))) (v : Value) : Calls Try.prog 43 #[ptr b, .int .i64 at_, v] w fun e w' => e = .returned (.int .i64 1) ∧ Below w.heap.size w w' := by
 obtain ⟨Dr, Dt, A, c, vt, hp⟩ := h.open_
 have c0 := (blk_cell hp.h1 0).trans rfl
 clear h hp
 go_enter Try.func43, Try.ntmps43
 by_cases h0 : at_ < 0
 ·clear hat
  go_wp2
  go_ret
  exact ⟨rfl, Below.refl _ _⟩
 ·have h1 : (L.length : Int) ≤ at_ := by omega
  clear hat
  go_wp2
  go_ret
  exact ⟨rfl, Below.refl _ _⟩
set_option maxRecDepth 100000 in
set_option maxHeartbeats 4000000 in
theorem refSet_c {w : World} {D : Nat → Prop} {b : Nat} {L : List (List Int)} {J : List S33} (h : CellsAt 68 w D b L J) (k : Nat) (hk : k < L.length) {v : Value} {x : List Int} (hx : SL w v x) (hm : x.length ≤ 1000000) :
 Calls Try.prog 43 #[ptr b, .int .i64 k, v] w fun e w' => e = .returned (.int .i64 0) ∧ CellsAt 68 w' (fun q => D q ∨ w.heap.size ≤ q) b (L.set k x) J ∧ Eff w w' D := by
 obtain ⟨Dr, Dt, A, c, vt, hp⟩ := h.open_
 obtain ⟨g, cap, cells, e, hg, hlt, hblk⟩ := hp.h2.form (by omega)
 injection e with e1 e2 e3
 subst e1
 subst e3
 obtain ⟨Ax, cx, rfl, hcx, hCx⟩ := hx
 have c0 := (blk_cell hp.h1 0).trans rfl
 have HP := Aside0.mk hp
 have HX := Aside0.mk hCx
 have HM := Aside0.mk hm
 have HK := Aside0.mk hk
 have hkI : (k : Int) < (L.length : Int) := by omega
 have hkn : ¬ (L.length : Int) ≤ (k : Int) := by omega
 have hk0 : 0 ≤ (k : Int) := by omega
 have hkz : ¬ (k : Int) < 0 := by omega
 have etk : (k : Int).toNat = k := Int.toNat_natCast _
 clear h hp hm hg hblk hk hlt hcx hCx
 go_enter Try.func43, Try.ntmps43
 go_upto_region 3 with (fail)
 have HBD : Aside0 (Below w.heap.size w w.drew) := ⟨below_drew (Below.refl _ _)⟩
 refine start_ (n := 9) (S := (fun W => Below w.heap.size w W)) (ds := [8]) #[false, false, false, false, false, false, false, false, false] (by kernel_rfl) (by kernel_rfl) (by rfl) HBD.out (fun hS0 => ?_)
 refine pure_ (i := 0) (N := (some 18)) (v := ?_) (a' := ?_) #[true, false, false, false, false, false, false, false, false] rfl rfl (by kernel_rfl) (fun _ _ _ h => h) (Or.inl ⟨by rfl, ?_⟩) ?_ ?_
 rotate_left
 ·intro w'
  go_simp
  with_reducible rfl
 rotate_left
 ·simp only [Act.put, List.setIfInBounds_toArray, List.set_cons_zero, List.set_cons_succ]
  rfl
 refine pure_ (i := 1) (N := (some 19)) (v := ?_) (a' := ?_) #[true, true, false, false, false, false, false, false, false] rfl rfl (by kernel_rfl) (fun _ _ _ h => h) (Or.inl ⟨by rfl, ?_⟩) ?_ ?_
 rotate_left
 ·intro w'
  go_simp
  with_reducible rfl
 rotate_left
 ·simp only [Act.put, List.setIfInBounds_toArray, List.set_cons_zero, List.set_cons_succ]
  rfl
 refine pure_ (i := 2) (N := (some 20)) (v := ?_) (a' := ?_) #[true, true, true, false, false, false, false, false, false] rfl rfl (by kernel_rfl) (fun _ _ _ h => h) (Or.inl ⟨by rfl, ?_⟩) ?_ ?_
 rotate_left
 ·intro w'
  go_simp
  with_reducible rfl
 rotate_left
 ·simp only [Act.put, List.setIfInBounds_toArray, List.set_cons_zero, List.set_cons_succ]
  rfl
 refine take_ (i := 3) (N := (some 21)) (v := ?_) (a' := ?_) #[true, true, true, true, false, false, false, false, false] rfl rfl (by kernel_rfl) (fun _ _ _ h => h) (Or.inl ⟨by rfl, ?_⟩) hS0 ?_ ?_
 rotate_left
 ·intro w' s0
  have hx0 := (s0.cell (World.block_lt_of_cell? _ _ c0)).trans c0
  go_simp
  with_reducible rfl
 rotate_left
 ·simp only [Act.put, List.setIfInBounds_toArray, List.set_cons_zero, List.set_cons_succ]
  rfl
 refine pure_ (i := 4) (N := (some 22)) (v := ?_) (a' := ?_) #[true, true, true, true, true, false, false, false, false] rfl rfl (by kernel_rfl) (fun _ _ _ h => h) (Or.inl ⟨by rfl, ?_⟩) ?_ ?_
 rotate_left
 ·intro w'
  go_simp
  with_reducible rfl
 rotate_left
 ·simp only [Act.put, List.setIfInBounds_toArray, List.set_cons_zero, List.set_cons_succ]
  rfl
 refine pure_ (i := 5) (N := (some 23)) (v := ?_) (a' := ?_) #[true, true, true, true, true, true, false, false, false] rfl rfl (by kernel_rfl) (fun _ _ _ h => h) (Or.inl ⟨by rfl, ?_⟩) ?_ ?_
 rotate_left
 ·intro w'
  go_simp
  with_reducible rfl
 rotate_left
 ·simp only [Act.put, List.setIfInBounds_toArray, List.set_cons_zero, List.set_cons_succ]
  rfl
 clear hS0
 refine one_ (i := 6) (N := (some 24)) #[true, true, true, true, true, true, true, false, false] rfl rfl (by kernel_rfl) (by decide) (fun K hK => ?_)
 refine Kd.R_append_rows_step (Kd.int .i64) (w0 := w) w.heap.size (by rfl) (.const (.slice none 0 0)) (.tmp 23) 31 3 (.int .i64 0) 8 rfl Try.underlying31 info3 rfl (by decide) (by omega) (.slice none 0 0) [] x Ax x.length cx (fun _ => True) (fun _ => False) rfl rfl (Kd.R_nil _ _ _ _ _) (Kd.C_below HX.out HBD.out) (fun _ _ h => h) (fun _ h => h.elim) (fun _ _ => trivial) HBD.out HBD.out.size (by have := HM.out; (try simp only [List.length_nil]); omega) ?_
 intro v1 w2 hv hb hg hat
 rw [List.nil_append] at hv
 obtain ⟨AU, cu, eu⟩ := Kd.R_slice hv
 subst eu
 have HU : Aside0 (SLD w2 (fun q => w.heap.size ≤ q) (.slice AU x.length cu) x) := ⟨SLD.of_R (Kd.R_mono (Kd.R_bound hv) (fun q hq => hq.2.1))⟩
 have HB2 := Aside0.mk hb
 clear hv hb hg hat
 change K (Act.put _ (some 24) _) _
 refine hK.out _ _ HB2.out (fun hS0 => ?_)
 clear hK
 refine norm_ (a' := ?_) ?_ ?_
 rotate_left
 ·simp only [Act.put, List.setIfInBounds_toArray, List.set_cons_zero, List.set_cons_succ]
  rfl
 obtain ⟨hd2, z0, z1, -⟩ := (HP.out.below HB2.out).h2.cell k HK.out
 refine pure_ (i := 7) (N := (some 25)) (v := ?_) (a' := ?_) #[true, true, true, true, true, true, true, true, false] rfl rfl (by kernel_rfl) (fun _ _ _ h => h) (Or.inl ⟨by rfl, ?_⟩) ?_ ?_
 rotate_left
 ·intro w'
  go_simp
  with_reducible rfl
 rotate_left
 ·simp only [Act.put, List.setIfInBounds_toArray, List.set_cons_zero, List.set_cons_succ]
  rfl
 clear hS0
 refine last_ (i := 8) (N := none) #[true, true, true, true, true, true, true, true, true] rfl rfl (by kernel_rfl) (by decide) (fun K hK => ?_)
 refine skip_ (w1 := w2.setCell ⟨g, k, none⟩ (.slice AU x.length cu)) (by rfl) rfl (by go_simp) ?_
 refine hK.out _ _ ?_
 clear hK
 refine done_ (by kernel_rfl) ?_
 go_wp2
 go_ret
 obtain ⟨q1, _, q3⟩ := HP.out.put HB2.out k HK.out HU.out
 exact ⟨rfl, q1, q3⟩
set_option maxRecDepth 100000 in
set_option maxHeartbeats 4000000 in
theorem refAhead_bad {w : World} {D : Nat → Prop} {b : Nat} {J : List S33} (h : CellsAt 68 w D b [] J) (v : Value) : Calls Try.prog 44 #[ptr b, v] w fun e w' => e = .returned (.int .i64 1) ∧ Below w.heap.size w w' := by
 obtain ⟨Dr, Dt, A, c, vt, hp⟩ := h.open_
 have c0 := (blk_cell hp.h1 0).trans rfl
 clear h hp
 go_enter Try.func44, Try.ntmps44
 go_wp2
 go_ret
 exact ⟨rfl, Below.refl _ _⟩
set_option maxRecDepth 100000 in
set_option maxHeartbeats 4000000 in
theorem refBehind_bad {w : World} {D : Nat → Prop} {b : Nat} {J : List S33} (h : CellsAt 68 w D b [] J) (v : Value) : Calls Try.prog 45 #[ptr b, v] w fun e w' => e = .returned (.int .i64 1) ∧ Below w.heap.size w w' := by
 obtain ⟨Dr, Dt, A, c, vt, hp⟩ := h.open_
 have c0 := (blk_cell hp.h1 0).trans rfl
 clear h hp
 go_enter Try.func45, Try.ntmps45
 go_wp2
 go_ret
 exact ⟨rfl, Below.refl _ _⟩
set_option maxRecDepth 100000 in
set_option maxHeartbeats 4000000 in
theorem refAhead_c {w : World} {D : Nat → Prop} {b : Nat} {L : List (List Int)} {J : List S33} (h : CellsAt 68 w D b L J) (hl : 0 < L.length) (hl8 : L.length ≤ 100000000) {v : Value} {x : List Int} (hx : SL w v x) (hm : x.length + (L[0]'(by omega)).length ≤ 1000000) :
 Calls Try.prog 44 #[ptr b, v] w fun e w' => e = .returned (.int .i64 0) ∧ CellsAt 68 w' (fun q => D q ∨ w.heap.size ≤ q) b (L.set (0) (x ++ L[0]'(by omega))) J ∧ Eff w w' D := by
 obtain ⟨k, hk⟩ : ∃ k, k = 0 := ⟨_, rfl⟩
 have hkl : k < L.length := by omega
 obtain ⟨y, hy⟩ : ∃ y, y = L[k] := ⟨_, rfl⟩
 have hyy : L[0]'(by omega) = y := by subst hk; exact hy.symm
 rw [hyy] at hm ⊢
 rw [← hk]
 have HH := Aside0.mk h
 obtain ⟨Dr, Dt, A, c, vt, hp⟩ := h.open_
 obtain ⟨g, cap, cells, e, hg, hlt, hblk⟩ := hp.h2.form (hl)
 injection e with e1 e2 e3
 subst e1
 subst e3
 obtain ⟨hd, z0, z1, z2⟩ := hp.h2.cell k hkl
 rw [← hy] at z2
 obtain ⟨Ay, cy, ey, hcy, hCy⟩ := z2.1
 rw [ey] at z0
 obtain ⟨Ax, cx, rfl, hcx, hCx⟩ := hx
 have HX := Aside0.mk hCx
 have HY := Aside0.mk hCy
 have c0 := (blk_cell hp.h1 0).trans rfl
 have HM := Aside0.mk hm
 have HK := Aside0.mk hkl
 have hkI : (k : Int) < (L.length : Int) := by omega
 have hlI : (0 : Int) < (L.length : Int) := by omega
 have hl0 : ¬ (L.length : Int) = 0 := by omega
 have hk0 : 0 ≤ (k : Int) := by omega
 have etk : (k : Int).toNat = k := Int.toNat_natCast _
 subst hk
 clear h hp hm hg hblk hlt hkl hy hyy z1 z2 hcx hCx ey hcy hCy
 go_enter Try.func44, Try.ntmps44
 go_upto_region 3 with (fail)
 have HBD : Aside0 (Below w.heap.size w w.drew) := ⟨below_drew (Below.refl _ _)⟩
 refine start_ (n := 12) (S := (fun W => Below w.heap.size w W)) (ds := [9, 10]) #[false, false, false, false, false, false, false, false, false, false, false, false] (by kernel_rfl) (by kernel_rfl) (by rfl) HBD.out (fun hS0 => ?_)
 refine pure_ (i := 0) (N := (some 11)) (v := ?_) (a' := ?_) #[true, false, false, false, false, false, false, false, false, false, false, false] rfl rfl (by kernel_rfl) (fun _ _ _ h => h) (Or.inl ⟨by rfl, ?_⟩) ?_ ?_
 rotate_left
 ·intro w'
  go_simp
  with_reducible rfl
 rotate_left
 ·simp only [Act.put, List.setIfInBounds_toArray, List.set_cons_zero, List.set_cons_succ]
  rfl
 refine pure_ (i := 1) (N := (some 12)) (v := ?_) (a' := ?_) #[true, true, false, false, false, false, false, false, false, false, false, false] rfl rfl (by kernel_rfl) (fun _ _ _ h => h) (Or.inl ⟨by rfl, ?_⟩) ?_ ?_
 rotate_left
 ·intro w'
  go_simp
  with_reducible rfl
 rotate_left
 ·simp only [Act.put, List.setIfInBounds_toArray, List.set_cons_zero, List.set_cons_succ]
  rfl
 refine pure_ (i := 3) (N := (some 14)) (v := ?_) (a' := ?_) #[true, true, false, true, false, false, false, false, false, false, false, false] rfl rfl (by kernel_rfl) (fun _ _ _ h => h) (Or.inl ⟨by rfl, ?_⟩) ?_ ?_
 rotate_left
 ·intro w'
  go_simp
  with_reducible rfl
 rotate_left
 ·simp only [Act.put, List.setIfInBounds_toArray, List.set_cons_zero, List.set_cons_succ]
  rfl
 refine pure_ (i := 4) (N := (some 15)) (v := ?_) (a' := ?_) #[true, true, false, true, true, false, false, false, false, false, false, false] rfl rfl (by kernel_rfl) (fun _ _ _ h => h) (Or.inl ⟨by rfl, ?_⟩) ?_ ?_
 rotate_left
 ·intro w'
  go_simp
  with_reducible rfl
 rotate_left
 ·simp only [Act.put, List.setIfInBounds_toArray, List.set_cons_zero, List.set_cons_succ]
  rfl
 refine pure_ (i := 5) (N := (some 16)) (v := ?_) (a' := ?_) #[true, true, false, true, true, true, false, false, false, false, false, false] rfl rfl (by kernel_rfl) (fun _ _ _ h => h) (Or.inl ⟨by rfl, ?_⟩) ?_ ?_
 rotate_left
 ·intro w'
  go_simp
  with_reducible rfl
 rotate_left
 ·simp only [Act.put, List.setIfInBounds_toArray, List.set_cons_zero, List.set_cons_succ]
  rfl
 refine take_ (i := 6) (N := (some 17)) (v := ?_) (a' := ?_) #[true, true, false, true, true, true, true, false, false, false, false, false] rfl rfl (by kernel_rfl) (fun _ _ _ h => h) (Or.inl ⟨by rfl, ?_⟩) hS0 ?_ ?_
 rotate_left
 ·intro w' s0
  have hx0 := (s0.cell (World.block_lt_of_cell? _ _ c0)).trans c0
  go_simp
  with_reducible rfl
 rotate_left
 ·simp only [Act.put, List.setIfInBounds_toArray, List.set_cons_zero, List.set_cons_succ]
  rfl
 refine pure_ (i := 7) (N := (some 18)) (v := ?_) (a' := ?_) #[true, true, false, true, true, true, true, true, false, false, false, false] rfl rfl (by kernel_rfl) (fun _ _ _ h => h) (Or.inl ⟨by rfl, ?_⟩) ?_ ?_
 rotate_left
 ·intro w'
  go_simp
  with_reducible rfl
 rotate_left
 ·simp only [Act.put, List.setIfInBounds_toArray, List.set_cons_zero, List.set_cons_succ]
  rfl
 refine take_ (i := 8) (N := (some 19)) (v := ?_) (a' := ?_) #[true, true, false, true, true, true, true, true, true, false, false, false] rfl rfl (by kernel_rfl) (fun _ _ _ h => h) (Or.inl ⟨by rfl, ?_⟩) hS0 ?_ ?_
 rotate_left
 ·intro w' s0
  have hx0 := (s0.cell (World.block_lt_of_cell? _ _ z0)).trans z0
  go_simp
  with_reducible rfl
 rotate_left
 ·simp only [Act.put, List.setIfInBounds_toArray, List.set_cons_zero, List.set_cons_succ]
  rfl
 clear hS0
 refine one_ (i := 2) (N := (some 13)) #[true, true, true, true, true, true, true, true, true, false, false, false] rfl rfl (by kernel_rfl) (by decide) (fun K hK => ?_)
 refine Kd.R_append_rows_step (Kd.int .i64) (w0 := w) w.heap.size (by rfl) (.const (.slice none 0 0)) (.tmp 12) 31 3 (.int .i64 0) 8 rfl Try.underlying31 info3 rfl (by decide) (by omega) (.slice none 0 0) [] x Ax x.length cx (fun _ => True) (fun _ => False) rfl rfl (Kd.R_nil _ _ _ _ _) (Kd.C_below HX.out HBD.out) (fun _ _ h => h) (fun _ h => h.elim) (fun _ _ => trivial) HBD.out HBD.out.size (by have := HM.out; (try simp only [List.length_nil]); omega) ?_
 intro v1 w2 hv hb hg hat
 rw [List.nil_append] at hv
 obtain ⟨A1, c1, e1⟩ := Kd.R_slice hv
 subst e1
 have HV := Aside0.mk hv
 have HB2 := Aside0.mk hb
 clear hv hb hg hat
 change K (Act.put _ (some 13) _) _
 refine hK.out _ _ HB2.out (fun hS0 => ?_)
 clear hK
 refine norm_ (a' := ?_) ?_ ?_
 rotate_left
 ·simp only [Act.put, List.setIfInBounds_toArray, List.set_cons_zero, List.set_cons_succ]
  rfl
 clear hS0
 refine last_ (i := 9) (N := (some 20)) #[true, true, true, true, true, true, true, true, true, true, false, false] rfl rfl (by kernel_rfl) (by decide) (fun K hK => ?_)
 refine Kd.R_append_rows_step (Kd.int .i64) (w0 := w) w.heap.size (by rfl) (.tmp 13) (.tmp 19) 31 3 (.int .i64 0) 8 rfl Try.underlying31 info3 rfl (by decide) (by omega) _ x y Ay y.length cy (fun _ => True) (fun _ => False) rfl rfl HV.out (Kd.C_below HY.out HB2.out) (fun _ _ h => h) (fun _ h => h.elim) (fun _ _ => trivial) HB2.out HB2.out.size (by have := HM.out; (try simp only [List.length_nil]); omega) ?_
 intro v2 w3 hv hb hg hat
 obtain ⟨A2, c2, e2⟩ := Kd.R_slice hv
 subst e2
 have HV3 := Aside0.mk hv
 have HB3 := Aside0.mk hb
 clear hv hb hg hat
 change K (Act.put _ (some 20) _) _
 refine hK.out _ _ ?_
 clear hK
 refine norm_ (a' := ?_) ?_ ?_
 rotate_left
 ·simp only [Act.put, List.setIfInBounds_toArray, List.set_cons_zero, List.set_cons_succ]
  rfl
 refine last_ (i := 10) (N := (some 21)) #[true, true, true, true, true, true, true, true, true, true, true, false] rfl rfl (by kernel_rfl) (by decide) (fun K hK => ?_)
 refine goes_ Try.func43 (by kernel_rfl) rfl #[ptr b, .int .i64 (0 : Nat), .slice A2 (x ++ y).length c2] (by rfl) rfl rfl (by go_simp; done) ?_
 refine (refSet_c (HH.out.below HB3.out) 0 HK.out (SLk.of_R HV3.out) (by rw [List.length_append]; have := HM.out; omega)).mono ?_
 rintro e w4 ⟨rfl, hc, he⟩
 refine ⟨_, rfl, ?_⟩
 have HC4 := Aside0.mk (hc.mono (D2 := fun q => D q ∨ w.heap.size ≤ q) (fun q hq => hq.imp_right (Nat.le_trans HB3.out.size)))
 have HE4 := Aside0.mk ((Eff.of_below HB3.out D).then_ he (fun k hk => .inl hk))
 clear hc he
 change K (Act.put _ (some 21) _) _
 refine hK.out _ _ ?_
 clear hK
 refine pure_ (i := 11) (N := (some 4)) (v := ?_) (a' := ?_) #[true, true, true, true, true, true, true, true, true, true, true, true] rfl rfl (by kernel_rfl) (fun _ _ _ h => h) (Or.inl ⟨by rfl, ?_⟩) ?_ ?_
 rotate_left
 ·intro w'
  go_simp
  with_reducible rfl
 rotate_left
 ·simp only [Act.put, List.setIfInBounds_toArray, List.set_cons_zero, List.set_cons_succ]
  rfl
 refine done_ (by kernel_rfl) ?_
 go_wp2
 go_ret
 exact ⟨rfl, HC4.out, HE4.out⟩
set_option maxRecDepth 100000 in
set_option maxHeartbeats 4000000 in
theorem refAt_bad {w : World} {D : Nat → Prop} {b : Nat} {L : List (List Int)} {J : List S33} (h : CellsAt 68 w D b L J) (at_ : Int) (hat : ¬ (0 ≤ at_ ∧ at_ < (L.length : Int))) : Calls Try.prog 20 #[ptr b, .int .i64 at_] w fun e w' => e = .returned (.slice none 0 0) ∧ Below w.heap.size w w' := by
 obtain ⟨Dr, Dt, A, c, vt, hp⟩ := h.open_
 have c0 := (blk_cell hp.h1 0).trans rfl
 clear h hp
 go_enter Try.func20, Try.ntmps20
 by_cases h0 : at_ < 0
 ·clear hat
  go_wp2
  go_ret
  exact ⟨rfl, Below.refl _ _⟩
 ·have h1 : (L.length : Int) ≤ at_ := by omega
  clear hat
  go_wp2
  go_ret
  exact ⟨rfl, Below.refl _ _⟩
set_option maxRecDepth 100000 in
set_option maxHeartbeats 4000000 in
theorem refAt_c {w : World} {D : Nat → Prop} {b : Nat} {L : List (List Int)} {J : List S33} (h : CellsAt 68 w D b L J) (k : Nat) (hk : k < L.length) :
 Calls Try.prog 20 #[ptr b, .int .i64 k] w fun e w' => ∃ u, e = .returned u ∧ SL w' u L[k] ∧ Below w.heap.size w w' := by
 obtain ⟨y, hy⟩ : ∃ y, y = L[k] := ⟨_, rfl⟩
 rw [← hy]
 obtain ⟨Dr, Dt, A, c, vt, hp⟩ := h.open_
 obtain ⟨g, cap, cells, e, hg, hlt, hblk⟩ := hp.h2.form (by omega)
 injection e with e1 e2 e3
 subst e1
 subst e3
 obtain ⟨hd, z0, z1, z2⟩ := hp.h2.cell k hk
 rw [← hy] at z2
 obtain ⟨Ay, cy, ey, hcy, hCy⟩ := z2.1
 rw [ey] at z0
 have HY : Aside0 (SL w (.slice Ay y.length cy) y) := ⟨⟨Ay, cy, rfl, hcy, hCy⟩⟩
 have c0 := (blk_cell hp.h1 0).trans rfl
 have hkI : (k : Int) < (L.length : Int) := by omega
 have hkn : ¬ (L.length : Int) ≤ (k : Int) := by omega
 have hk0 : 0 ≤ (k : Int) := by omega
 have hkz : ¬ (k : Int) < 0 := by omega
 have etk : (k : Int).toNat = k := Int.toNat_natCast _
 clear h hp hg hblk hlt hk hy z1 z2 ey hcy hCy
 go_enter Try.func20, Try.ntmps20
 go_wp2
 go_ret
 exact ⟨_, rfl, HY.out, Below.refl _ _⟩
set_option maxRecDepth 100000 in
set_option maxHeartbeats 4000000 in
theorem refText_c {w : World} {D : Nat → Prop} {b : Nat} {L : List (List Int)} {J : List S33} (h : CellsAt 68 w D b L J) (hl8 : L.length ≤ 100000000) (hf : L.flatten.length ≤ 10000000) :
 Calls Try.prog 18 #[ptr b] w fun e w' => ∃ u, e = .returned u ∧ Kd.R (Kd.int .i64) 3 w' w.heap.size (fun _ => True) u L.flatten ∧ Below w.heap.size w w' := by
 obtain ⟨Dr, Dt, A, c, vt, hp⟩ := h.open_
 have c0 := (blk_cell hp.h1 0).trans rfl
 have HC : Aside0 (Kd.C (Kd.slice 3 (Kd.int .i64)) w A L.length L) := ⟨by obtain ⟨A', c', e', h1, h2⟩ := hp.h2.reads 3; injection e' with e1 e2 e3; subst e1; exact h2⟩
 have HL := Aside0.mk hl8
 have HF := Aside0.mk hf
 clear h hp hl8 hf
 go_enter Try.func18, Try.ntmps18
 go_wp2
 go_loopw [3, 4] (fun v3 v wr => ∃ k : Nat, v = .int .i64 (k : Int) ∧ k ≤ L.length ∧ Aside0 (Kd.R (Kd.int .i64) 3 wr w.heap.size (fun _ => True) v3 (L.take k).flatten) ∧ Aside0 (Below w.heap.size w wr)) (fun _ v _ => L.length - (intOf v).toNat)
 case atStart => exact ⟨0, rfl, Nat.zero_le _, ⟨Kd.R_nil _ _ _ _ _⟩, ⟨Below.refl _ _⟩⟩
 case round =>
  obtain ⟨k, rfl, hk, HR, HB⟩ := hrel
  have r0 := (HB.out.cell (World.block_lt_of_cell? _ _ c0)).trans c0
  by_cases hlt : k < L.length
  ·obtain ⟨x, hx⟩ : ∃ x, x = L[k] := ⟨_, rfl⟩
   obtain ⟨ad, cs, ead, _, hK, hcell⟩ := Kd.C_get (Kd.C_below HC.out HB.out) [] (k : Int) (by omega) (by omega)
   rw [Int.toNat_natCast, show L.getD k [] = x by rw [hx, List.getD_eq_getElem?_getD, List.getElem?_eq_getElem hlt]; rfl] at hK
   obtain ⟨A', c', rfl, hc', hC'⟩ := hK
   have y0 := hcell 0 _ rfl
   rw [Int.toNat_natCast, show (Kd.slice 3 (Kd.int .i64)).sz = 1 from rfl, Nat.add_zero, Nat.mul_one] at y0
   have HNX : Aside0 ((L.take (k + 1)).flatten = (L.take k).flatten ++ x) := ⟨by rw [flat_take hlt, hx]⟩
   have HLE : Aside0 ((L.take (k + 1)).flatten.length ≤ 10000000) := ⟨Nat.le_trans (flat_le L (k + 1)) HF.out⟩
   rw [HNX.out, List.length_append] at HLE
   obtain ⟨o, ho⟩ : ∃ o, o = (L.take k).flatten := ⟨_, rfl⟩
   rw [← ho] at HNX HR HLE
   obtain ⟨A6, c6, e6⟩ := Kd.R_slice HR.out
   subst e6
   have hkI : (k : Int) < (L.length : Int) := by omega
   have hk8 : (k : Int) ≤ 100000000 := by have := HL.out; omega
   have HCX := Aside0.mk hC'
   subst ead
   clear hx hcell hC' hc' ho
   go_wp2_with ((with_reducible refine gate_builtin (b := .append) (xs := #[.tmp 14, .tmp 21]) rfl ?_); at_builtin; refine Kd.R_append_rows (Kd.int .i64) (w0 := w) w.heap.size rfl (.tmp 14) (.tmp 21) 31 3 (.int .i64 0) 8 rfl Try.underlying31 info3 rfl (by decide) (by omega) _ o x A' x.length c' (fun _ => True) (fun _ => False) (by first | (go_simp; done) | (go_simp; rfl)) (by first | (go_simp; done) | (go_simp; rfl)) HR.out HCX.out (fun x cs h => h) (fun _ h => h.elim) (fun _ _ => trivial) HB.out HB.out.size (by have := HLE.out; omega) ?_; intro v4 w4 hv hb hg hat; have HR4 := Aside0.mk hv; have HB4 := Aside0.mk hb; clear hv hb hg hat)
   exact ⟨⟨k + 1, by go_num, by omega, ⟨by rw [HNX.out]; exact HR4.out⟩, HB4⟩, by simp [intOf]; omega⟩
  ·obtain rfl : k = L.length := by omega
   rw [List.take_length] at HR
   clear hlt
   go_wp2
   go_ret
   exact ⟨_, rfl, HR.out, HB.out⟩
end Go.Proofs.Ytohhobcipfmkbaa.Cel
end
section
namespace Go.Proofs.Ytohhobcipfmkbaa.Cel
open Go.RowKit Go.Proofs.YtohhobcipfmkbaaW.PrintWords Go.Proofs.YtohhobcipfmkbaaW.PrintMore Go.Proofs.YtohhobcipfmkbaaW.PrintLast Go.Proofs.Ytohhobcipfmkbaa.U Go.Proofs.Ytohhobcipfmkbaa.PClusterFinest Go.Proofs.Ytohhobcipfmkbaa.UGroups Go.Proofs.Ytohhobcipfmkbaa.UFinEv
open Go.Proofs.Ytohhobcipfmkbaa.CFin (rd33 info33 cells33 one33)
set_option maxRecDepth 100000 in
set_option maxHeartbeats 4000000 in
theorem refBehind_c {w : World} {D : Nat → Prop} {b : Nat} {L : List (List Int)} {J : List S33} (h : CellsAt 68 w D b L J) (hl : 0 < L.length) (hl8 : L.length ≤ 100000000) {v : Value} {x : List Int} (hx : SL w v x) (hm : x.length + (L[L.length - 1]'(by omega)).length ≤ 1000000) :
 Calls Try.prog 45 #[ptr b, v] w fun e w' => e = .returned (.int .i64 0) ∧ CellsAt 68 w' (fun q => D q ∨ w.heap.size ≤ q) b (L.set (L.length - 1) (L[L.length - 1]'(by omega) ++ x)) J ∧ Eff w w' D := by
 obtain ⟨k, hk⟩ : ∃ k, k = L.length - 1 := ⟨_, rfl⟩
 have hkl : k < L.length := by omega
 obtain ⟨y, hy⟩ : ∃ y, y = L[k] := ⟨_, rfl⟩
 have hyy : L[L.length - 1]'(by omega) = y := by subst hk; exact hy.symm
 rw [hyy] at hm ⊢
 rw [← hk]
 have HH := Aside0.mk h
 obtain ⟨Dr, Dt, A, c, vt, hp⟩ := h.open_
 obtain ⟨g, cap, cells, e, hg, hlt, hblk⟩ := hp.h2.form (hl)
 injection e with e1 e2 e3
 subst e1
 subst e3
 obtain ⟨hd, z0, z1, z2⟩ := hp.h2.cell k hkl
 rw [← hy] at z2
 obtain ⟨Ay, cy, ey, hcy, hCy⟩ := z2.1
 rw [ey] at z0
 obtain ⟨Ax, cx, rfl, hcx, hCx⟩ := hx
 have HX := Aside0.mk hCx
 have HY := Aside0.mk hCy
 have c0 := (blk_cell hp.h1 0).trans rfl
 have HM := Aside0.mk hm
 have HK := Aside0.mk hkl
 have hkI : (k : Int) < (L.length : Int) := by omega
 have hlI : (0 : Int) < (L.length : Int) := by omega
 have hl0 : ¬ (L.length : Int) = 0 := by omega
 have hk0 : 0 ≤ (k : Int) := by omega
 have etk : (k : Int).toNat = k := Int.toNat_natCast _
 have ek : IntKind.i64.wrap ((L.length : Int) - 1) = (k : Int) := by rw [IntWalk.i64_in _ (by omega)]; omega
 have HB0 : Aside0 (Below w.heap.size w w) := ⟨Below.refl _ _⟩
 clear h hp hm hg hblk hlt hkl hy hyy z1 z2 hcx hCx ey hcy hCy hk
 go_enter Try.func45, Try.ntmps45
 go_wp2_with (first | ((with_reducible refine gate_builtin (b := .append) (xs := #[.const (.slice none 0 0), .tmp 23]) rfl ?_); at_builtin; refine Kd.R_append_rows (Kd.int .i64) (w0 := w) w.heap.size rfl (.const (.slice none 0 0)) (.tmp 23) 31 3 (.int .i64 0) 8 rfl Try.underlying31 info3 rfl (by decide) (by omega) (.slice none 0 0) [] y Ay y.length cy (fun _ => True) (fun _ => False) (by first | rfl | (go_simp; done) | (go_simp; rfl)) (by first | (go_simp; done) | (go_simp; rfl)) (Kd.R_nil _ _ _ _ _) (Kd.C_below HY.out HB0.out) (fun _ _ h => h) (fun _ h => h.elim) (fun _ _ => trivial) HB0.out HB0.out.size (by have := HM.out; (try simp only [List.length_nil]); omega) ?_; intro v1 w2 hv hb hg hat; rw [List.nil_append] at hv; obtain ⟨A1, c1, e1⟩ := Kd.R_slice hv; subst e1; have HV := Aside0.mk hv; have HB2 := Aside0.mk hb; clear hv hb hg hat) | ((with_reducible refine gate_builtin (b := .append) (xs := #[.tmp 24, .tmp 25]) rfl ?_); at_builtin; refine Kd.R_append_rows (Kd.int .i64) (w0 := w) w.heap.size rfl (.tmp 24) (.tmp 25) 31 3 (.int .i64 0) 8 rfl Try.underlying31 info3 rfl (by decide) (by omega) _ y x Ax x.length cx (fun _ => True) (fun _ => False) (by first | rfl | (go_simp; done) | (go_simp; rfl)) (by first | (go_simp; done) | (go_simp; rfl)) HV.out (Kd.C_below HX.out HB2.out) (fun _ _ h => h) (fun _ h => h.elim) (fun _ _ => trivial) HB2.out HB2.out.size (by have := HM.out; (try simp only [List.length_nil]); omega) ?_; intro v2 w3 hv hb hg hat; obtain ⟨A2, c2, e2⟩ := Kd.R_slice hv; rw [List.length_append] at e2; subst e2; have HV3 := Aside0.mk hv; have HB3 := Aside0.mk hb; clear hv hb hg hat) | (go_at_call 43; refine (refSet_c (HH.out.below HB3.out) k HK.out (SLk.of_R HV3.out) (by rw [List.length_append]; have := HM.out; omega)).mono ?_; rintro e w4 ⟨rfl, hc, he⟩; have HC4 := Aside0.mk (hc.mono (D2 := fun q => D q ∨ w.heap.size ≤ q) (fun q hq => hq.imp_right (Nat.le_trans HB3.out.size))); have HE4 := Aside0.mk ((Eff.of_below HB3.out D).then_ he (fun k hk => .inl hk)); clear hc he))
 go_ret
 exact ⟨rfl, HC4.out, HE4.out⟩
set_option maxRecDepth 100000 in
set_option maxHeartbeats 4000000 in
theorem refJoin_bad {w : World} {D : Nat → Prop} {b : Nat} {L : List (List Int)} {J : List S33} (h : CellsAt 68 w D b L J) (lo hi : Int) (hno : ¬ (0 ≤ lo ∧ lo < hi ∧ hi ≤ (L.length : Int))) :
 Calls Try.prog 46 #[ptr b, .agg #[.int .i64 lo, .int .i64 hi]] w fun e w' => e = .returned (.int .i64 1) ∧ Below w.heap.size w w' := by
 obtain ⟨Dr, Dt, A, c, vt, hp⟩ := h.open_
 obtain ⟨At, ct, evt⟩ := Kd.R_slice hp.h3
 subst evt
 have HP := Aside0.mk hp
 clear h hp
 go_enter Try.func46, Try.ntmps46
 go_upto_region 1 with (first | ((with_reducible refine gate_dst (N := 3) rfl ?_); refine box_event ?hg (N := 3) ?hd (cs := #[.int .i64 lo, .int .i64 hi]) (t := 33) ?hr ?_; (case hd => rfl); (case hg => rfl); (case hr => first | (go_simp; done) | (go_simp; rfl)); intro gb hg w1 hbox hb; have HX := Aside0.mk hbox; have HB1 := Aside0.mk hb; have HP1 := Aside0.mk (HP.out.below hb); clear hg hbox hb))
 have x0 := (blk_cell HX.out 0).trans rfl
 have x1 := (blk_cell HX.out 1).trans rfl
 have c0 := (blk_cell HP1.out.h1 0).trans rfl
 by_cases hrt : 0 ≤ lo ∧ lo < hi
 ·have HRB : Aside0 (decide (0 ≤ lo ∧ lo < hi) = true) := ⟨decide_eq_true hrt⟩
  have hhi : (L.length : Int) < hi := by omega
  clear hrt hno
  have HBD : Aside0 (Below w1.heap.size w1 w1.drew) := ⟨below_drew (Below.refl _ _)⟩
  refine start_ (n := 13) (S := (fun W => Below w1.heap.size w1 W)) (ds := []) #[false, false, false, false, false, false, false, false, false, false, false, false, false] (by kernel_rfl) (by kernel_rfl) (by rfl) HBD.out (fun hS0 => ?_)
  refine take_ (i := 0) (N := (some 5)) (v := ?_) (a' := ?_) #[true, false, false, false, false, false, false, false, false, false, false, false, false] rfl rfl (by kernel_rfl) (fun _ _ _ h => h) (Or.inl ⟨by rfl, ?_⟩) hS0 ?_ ?_
  rotate_left
  ·intro w' s0
   have hx0 := (s0.cell (World.block_lt_of_cell? _ _ x0)).trans x0
   have hx1 := (s0.cell (World.block_lt_of_cell? _ _ x1)).trans x1
   go_simp
   with_reducible rfl
  rotate_left
  ·simp only [Act.put, List.setIfInBounds_toArray, List.set_cons_zero, List.set_cons_succ]
   rfl
  clear hS0
  refine one_ (i := 1) (N := (some 6)) #[true, true, false, false, false, false, false, false, false, false, false, false, false] rfl rfl (by kernel_rfl) (by decide) (fun K hK => ?_)
  refine goes_ Try.func76 (by kernel_rfl) rfl #[.agg #[.int .i64 lo, .int .i64 hi]] (by rfl) rfl rfl (by go_simp; done) ?_
  refine (naskhref03_Right.calls lo hi _ _ (refRight_is3 lo hi)).mono ?_
  rintro e w2 ⟨rfl, hb2⟩
  rw [HRB.out]
  refine ⟨_, rfl, ?_⟩
  have HB2 : Aside0 (Below w1.heap.size w1 w2) := ⟨below_step HBD.out hb2⟩
  clear hb2
  change K (Act.put _ (some 6) _) _
  refine hK.out _ _ HB2.out (fun hS0 => ?_)
  clear hK
  refine norm_ (a' := ?_) ?_ ?_
  rotate_left
  ·simp only [Act.put, List.setIfInBounds_toArray, List.set_cons_zero, List.set_cons_succ]
   rfl
  refine pure_ (i := 2) (N := (some 7)) (v := ?_) (a' := ?_) #[true, true, true, false, false, false, false, false, false, false, false, false, false] rfl rfl (by kernel_rfl) (fun _ _ _ h => h) (Or.inl ⟨by rfl, ?_⟩) ?_ ?_
  rotate_left
  ·intro w'
   go_simp
   with_reducible rfl
  rotate_left
  ·simp only [Act.put, List.setIfInBounds_toArray, List.set_cons_zero, List.set_cons_succ]
   rfl
  refine pure_ (i := 3) (N := (some 8)) (v := ?_) (a' := ?_) #[true, true, true, true, false, false, false, false, false, false, false, false, false] rfl rfl (by kernel_rfl) (fun _ _ _ h => h) (Or.inl ⟨by rfl, ?_⟩) ?_ ?_
  rotate_left
  ·intro w'
   go_simp
   with_reducible rfl
  rotate_left
  ·simp only [Act.put, List.setIfInBounds_toArray, List.set_cons_zero, List.set_cons_succ]
   rfl
  refine pure_ (i := 4) (N := (some 9)) (v := ?_) (a' := ?_) #[true, true, true, true, true, false, false, false, false, false, false, false, false] rfl rfl (by kernel_rfl) (fun _ _ _ h => h) (Or.inl ⟨by rfl, ?_⟩) ?_ ?_
  rotate_left
  ·intro w'
   go_simp
   with_reducible rfl
  rotate_left
  ·simp only [Act.put, List.setIfInBounds_toArray, List.set_cons_zero, List.set_cons_succ]
   rfl
  refine take_ (i := 5) (N := (some 10)) (v := ?_) (a' := ?_) #[true, true, true, true, true, true, false, false, false, false, false, false, false] rfl rfl (by kernel_rfl) (fun _ _ _ h => h) (Or.inl ⟨by rfl, ?_⟩) hS0 ?_ ?_
  rotate_left
  ·intro w' s0
   have hx1 := (s0.cell (World.block_lt_of_cell? _ _ x1)).trans x1
   go_simp
   with_reducible rfl
  rotate_left
  ·simp only [Act.put, List.setIfInBounds_toArray, List.set_cons_zero, List.set_cons_succ]
   rfl
  refine pure_ (i := 6) (N := (some 11)) (v := ?_) (a' := ?_) #[true, true, true, true, true, true, true, false, false, false, false, false, false] rfl rfl (by kernel_rfl) (fun _ _ _ h => h) (Or.inl ⟨by rfl, ?_⟩) ?_ ?_
  rotate_left
  ·intro w'
   go_simp
   with_reducible rfl
  rotate_left
  ·simp only [Act.put, List.setIfInBounds_toArray, List.set_cons_zero, List.set_cons_succ]
   rfl
  refine pure_ (i := 7) (N := (some 12)) (v := ?_) (a' := ?_) #[true, true, true, true, true, true, true, true, false, false, false, false, false] rfl rfl (by kernel_rfl) (fun _ _ _ h => h) (Or.inl ⟨by rfl, ?_⟩) ?_ ?_
  rotate_left
  ·intro w'
   go_simp
   with_reducible rfl
  rotate_left
  ·simp only [Act.put, List.setIfInBounds_toArray, List.set_cons_zero, List.set_cons_succ]
   rfl
  refine pure_ (i := 8) (N := (some 13)) (v := ?_) (a' := ?_) #[true, true, true, true, true, true, true, true, true, false, false, false, false] rfl rfl (by kernel_rfl) (fun _ _ _ h => h) (Or.inl ⟨by rfl, ?_⟩) ?_ ?_
  rotate_left
  ·intro w'
   go_simp
   with_reducible rfl
  rotate_left
  ·simp only [Act.put, List.setIfInBounds_toArray, List.set_cons_zero, List.set_cons_succ]
   rfl
  refine take_ (i := 9) (N := (some 14)) (v := ?_) (a' := ?_) #[true, true, true, true, true, true, true, true, true, true, false, false, false] rfl rfl (by kernel_rfl) (fun _ _ _ h => h) (Or.inl ⟨by rfl, ?_⟩) hS0 ?_ ?_
  rotate_left
  ·intro w' s0
   have hx0 := (s0.cell (World.block_lt_of_cell? _ _ c0)).trans c0
   go_simp
   with_reducible rfl
  rotate_left
  ·simp only [Act.put, List.setIfInBounds_toArray, List.set_cons_zero, List.set_cons_succ]
   rfl
  refine pure_ (i := 10) (N := (some 15)) (v := ?_) (a' := ?_) #[true, true, true, true, true, true, true, true, true, true, true, false, false] rfl rfl (by kernel_rfl) (fun _ _ _ h => h) (Or.inl ⟨by rfl, ?_⟩) ?_ ?_
  rotate_left
  ·intro w'
   go_simp
   with_reducible rfl
  rotate_left
  ·simp only [Act.put, List.setIfInBounds_toArray, List.set_cons_zero, List.set_cons_succ]
   rfl
  refine pure_ (i := 11) (N := (some 16)) (v := ?_) (a' := ?_) #[true, true, true, true, true, true, true, true, true, true, true, true, false] rfl rfl (by kernel_rfl) (fun _ _ _ h => h) (Or.inl ⟨by rfl, ?_⟩) ?_ ?_
  rotate_left
  ·intro w'
   go_simp
   with_reducible rfl
  rotate_left
  ·simp only [Act.put, List.setIfInBounds_toArray, List.set_cons_zero, List.set_cons_succ]
   rfl
  refine pure_ (i := 12) (N := (some 17)) (v := ?_) (a' := ?_) #[true, true, true, true, true, true, true, true, true, true, true, true, true] rfl rfl (by kernel_rfl) (fun _ _ _ h => h) (Or.inl ⟨by rfl, ?_⟩) ?_ ?_
  rotate_left
  ·intro w'
   go_simp
   with_reducible rfl
  rotate_left
  ·simp only [Act.put, List.setIfInBounds_toArray, List.set_cons_zero, List.set_cons_succ]
   rfl
  refine done_ (by kernel_rfl) ?_
  go_wp2
  go_ret
  exact ⟨rfl, below_step HB1.out HB2.out⟩
 ·have HRB : Aside0 (decide (0 ≤ lo ∧ lo < hi) = false) := ⟨decide_eq_false hrt⟩
  clear hrt hno
  have HBD : Aside0 (Below w1.heap.size w1 w1.drew) := ⟨below_drew (Below.refl _ _)⟩
  refine start_ (n := 13) (S := (fun W => Below w1.heap.size w1 W)) (ds := []) #[false, false, false, false, false, false, false, false, false, false, false, false, false] (by kernel_rfl) (by kernel_rfl) (by rfl) HBD.out (fun hS0 => ?_)
  refine take_ (i := 0) (N := (some 5)) (v := ?_) (a' := ?_) #[true, false, false, false, false, false, false, false, false, false, false, false, false] rfl rfl (by kernel_rfl) (fun _ _ _ h => h) (Or.inl ⟨by rfl, ?_⟩) hS0 ?_ ?_
  rotate_left
  ·intro w' s0
   have hx0 := (s0.cell (World.block_lt_of_cell? _ _ x0)).trans x0
   have hx1 := (s0.cell (World.block_lt_of_cell? _ _ x1)).trans x1
   go_simp
   with_reducible rfl
  rotate_left
  ·simp only [Act.put, List.setIfInBounds_toArray, List.set_cons_zero, List.set_cons_succ]
   rfl
  clear hS0
  refine one_ (i := 1) (N := (some 6)) #[true, true, false, false, false, false, false, false, false, false, false, false, false] rfl rfl (by kernel_rfl) (by decide) (fun K hK => ?_)
  refine goes_ Try.func76 (by kernel_rfl) rfl #[.agg #[.int .i64 lo, .int .i64 hi]] (by rfl) rfl rfl (by go_simp; done) ?_
  refine (naskhref03_Right.calls lo hi _ _ (refRight_is3 lo hi)).mono ?_
  rintro e w2 ⟨rfl, hb2⟩
  rw [HRB.out]
  refine ⟨_, rfl, ?_⟩
  have HB2 : Aside0 (Below w1.heap.size w1 w2) := ⟨below_step HBD.out hb2⟩
  clear hb2
  change K (Act.put _ (some 6) _) _
  refine hK.out _ _ HB2.out (fun hS0 => ?_)
  clear hK
  refine norm_ (a' := ?_) ?_ ?_
  rotate_left
  ·simp only [Act.put, List.setIfInBounds_toArray, List.set_cons_zero, List.set_cons_succ]
   rfl
  refine pure_ (i := 2) (N := (some 7)) (v := ?_) (a' := ?_) #[true, true, true, false, false, false, false, false, false, false, false, false, false] rfl rfl (by kernel_rfl) (fun _ _ _ h => h) (Or.inl ⟨by rfl, ?_⟩) ?_ ?_
  rotate_left
  ·intro w'
   go_simp
   with_reducible rfl
  rotate_left
  ·simp only [Act.put, List.setIfInBounds_toArray, List.set_cons_zero, List.set_cons_succ]
   rfl
  refine pure_ (i := 3) (N := (some 8)) (v := ?_) (a' := ?_) #[true, true, true, true, false, false, false, false, false, false, false, false, false] rfl rfl (by kernel_rfl) (fun _ _ _ h => h) (Or.inl ⟨by rfl, ?_⟩) ?_ ?_
  rotate_left
  ·intro w'
   go_simp
   with_reducible rfl
  rotate_left
  ·simp only [Act.put, List.setIfInBounds_toArray, List.set_cons_zero, List.set_cons_succ]
   rfl
  refine pure_ (i := 4) (N := (some 9)) (v := undef) (a' := ?_) #[true, true, true, true, true, false, false, false, false, false, false, false, false] rfl rfl (by kernel_rfl) (fun _ _ _ h => h) (Or.inr ⟨by rfl, rfl⟩) ?_ ?_
  rotate_left
  ·simp only [Act.put, List.setIfInBounds_toArray, List.set_cons_zero, List.set_cons_succ]
   rfl
  refine pure_ (i := 5) (N := (some 10)) (v := undef) (a' := ?_) #[true, true, true, true, true, true, false, false, false, false, false, false, false] rfl rfl (by kernel_rfl) (fun _ _ _ h => h) (Or.inr ⟨by rfl, rfl⟩) ?_ ?_
  rotate_left
  ·simp only [Act.put, List.setIfInBounds_toArray, List.set_cons_zero, List.set_cons_succ]
   rfl
  refine pure_ (i := 6) (N := (some 11)) (v := undef) (a' := ?_) #[true, true, true, true, true, true, true, false, false, false, false, false, false] rfl rfl (by kernel_rfl) (fun _ _ _ h => h) (Or.inr ⟨by rfl, rfl⟩) ?_ ?_
  rotate_left
  ·simp only [Act.put, List.setIfInBounds_toArray, List.set_cons_zero, List.set_cons_succ]
   rfl
  refine pure_ (i := 7) (N := (some 12)) (v := undef) (a' := ?_) #[true, true, true, true, true, true, true, true, false, false, false, false, false] rfl rfl (by kernel_rfl) (fun _ _ _ h => h) (Or.inr ⟨by rfl, rfl⟩) ?_ ?_
  rotate_left
  ·simp only [Act.put, List.setIfInBounds_toArray, List.set_cons_zero, List.set_cons_succ]
   rfl
  refine pure_ (i := 8) (N := (some 13)) (v := undef) (a' := ?_) #[true, true, true, true, true, true, true, true, true, false, false, false, false] rfl rfl (by kernel_rfl) (fun _ _ _ h => h) (Or.inr ⟨by rfl, rfl⟩) ?_ ?_
  rotate_left
  ·simp only [Act.put, List.setIfInBounds_toArray, List.set_cons_zero, List.set_cons_succ]
   rfl
  refine pure_ (i := 9) (N := (some 14)) (v := undef) (a' := ?_) #[true, true, true, true, true, true, true, true, true, true, false, false, false] rfl rfl (by kernel_rfl) (fun _ _ _ h => h) (Or.inr ⟨by rfl, rfl⟩) ?_ ?_
  rotate_left
  ·simp only [Act.put, List.setIfInBounds_toArray, List.set_cons_zero, List.set_cons_succ]
   rfl
  refine pure_ (i := 10) (N := (some 15)) (v := undef) (a' := ?_) #[true, true, true, true, true, true, true, true, true, true, true, false, false] rfl rfl (by kernel_rfl) (fun _ _ _ h => h) (Or.inr ⟨by rfl, rfl⟩) ?_ ?_
  rotate_left
  ·simp only [Act.put, List.setIfInBounds_toArray, List.set_cons_zero, List.set_cons_succ]
   rfl
  refine pure_ (i := 11) (N := (some 16)) (v := undef) (a' := ?_) #[true, true, true, true, true, true, true, true, true, true, true, true, false] rfl rfl (by kernel_rfl) (fun _ _ _ h => h) (Or.inr ⟨by rfl, rfl⟩) ?_ ?_
  rotate_left
  ·simp only [Act.put, List.setIfInBounds_toArray, List.set_cons_zero, List.set_cons_succ]
   rfl
  refine pure_ (i := 12) (N := (some 17)) (v := ?_) (a' := ?_) #[true, true, true, true, true, true, true, true, true, true, true, true, true] rfl rfl (by kernel_rfl) (fun _ _ _ h => h) (Or.inl ⟨by rfl, ?_⟩) ?_ ?_
  rotate_left
  ·intro w'
   go_simp
   with_reducible rfl
  rotate_left
  ·simp only [Act.put, List.setIfInBounds_toArray, List.set_cons_zero, List.set_cons_succ]
   rfl
  refine done_ (by kernel_rfl) ?_
  go_wp2
  go_ret
  exact ⟨rfl, below_step HB1.out HB2.out⟩
set_option maxRecDepth 100000 in
set_option maxHeartbeats 4000000 in
theorem refJoin_c {w : World} {D : Nat → Prop} {b : Nat} {L : List (List Int)} {J : List S33} (h : CellsAt 68 w D b L J) (hJ : J.length ≤ 1000000) (lo hi : Int) (h0 : 0 ≤ lo) (h1 : lo < hi) (h2 : hi ≤ (L.length : Int)) :
 Calls Try.prog 46 #[ptr b, .agg #[.int .i64 lo, .int .i64 hi]] w fun e w' => e = .returned (.int .i64 0) ∧ CellsAt 68 w' (fun q => D q ∨ w.heap.size ≤ q) b L (J ++ [⟨lo, hi⟩]) ∧ Eff w w' D := by
 obtain ⟨Dr, Dt, A, c, vt, hp⟩ := h.open_
 obtain ⟨At, ct, evt⟩ := Kd.R_slice hp.h3
 subst evt
 have HP := Aside0.mk hp
 clear h hp
 have HJ := Aside0.mk hJ
 go_enter Try.func46, Try.ntmps46
 go_upto_region 1 with (first | ((with_reducible refine gate_dst (N := 3) rfl ?_); refine box_event ?hg (N := 3) ?hd (cs := #[.int .i64 lo, .int .i64 hi]) (t := 33) ?hr ?_; (case hd => rfl); (case hg => rfl); (case hr => first | (go_simp; done) | (go_simp; rfl)); intro gb hg w1 hbox hb; have HX := Aside0.mk hbox; have HB1 := Aside0.mk hb; have HP1 := Aside0.mk (HP.out.below hb); clear hg hbox hb))
 have x0 := (blk_cell HX.out 0).trans rfl
 have x1 := (blk_cell HX.out 1).trans rfl
 have c0 := (blk_cell HP1.out.h1 0).trans rfl
 have HRB : Aside0 (decide (0 ≤ lo ∧ lo < hi) = true) := ⟨decide_eq_true ⟨h0, h1⟩⟩
 have hhi : ¬ (L.length : Int) < hi := by omega
 clear h0 h1 hJ
 have HBD : Aside0 (Below w1.heap.size w1 w1.drew) := ⟨below_drew (Below.refl _ _)⟩
 refine start_ (n := 13) (S := (fun W => Below w1.heap.size w1 W)) (ds := []) #[false, false, false, false, false, false, false, false, false, false, false, false, false] (by kernel_rfl) (by kernel_rfl) (by rfl) HBD.out (fun hS0 => ?_)
 refine take_ (i := 0) (N := (some 5)) (v := ?_) (a' := ?_) #[true, false, false, false, false, false, false, false, false, false, false, false, false] rfl rfl (by kernel_rfl) (fun _ _ _ h => h) (Or.inl ⟨by rfl, ?_⟩) hS0 ?_ ?_
 rotate_left
 ·intro w' s0
  have hx0 := (s0.cell (World.block_lt_of_cell? _ _ x0)).trans x0
  have hx1 := (s0.cell (World.block_lt_of_cell? _ _ x1)).trans x1
  go_simp
  with_reducible rfl
 rotate_left
 ·simp only [Act.put, List.setIfInBounds_toArray, List.set_cons_zero, List.set_cons_succ]
  rfl
 clear hS0
 refine one_ (i := 1) (N := (some 6)) #[true, true, false, false, false, false, false, false, false, false, false, false, false] rfl rfl (by kernel_rfl) (by decide) (fun K hK => ?_)
 refine goes_ Try.func76 (by kernel_rfl) rfl #[.agg #[.int .i64 lo, .int .i64 hi]] (by rfl) rfl rfl (by go_simp; done) ?_
 refine (naskhref03_Right.calls lo hi _ _ (refRight_is3 lo hi)).mono ?_
 rintro e w2 ⟨rfl, hb2⟩
 rw [HRB.out]
 refine ⟨_, rfl, ?_⟩
 have HB2 : Aside0 (Below w1.heap.size w1 w2) := ⟨below_step HBD.out hb2⟩
 clear hb2
 change K (Act.put _ (some 6) _) _
 refine hK.out _ _ HB2.out (fun hS0 => ?_)
 clear hK
 refine norm_ (a' := ?_) ?_ ?_
 rotate_left
 ·simp only [Act.put, List.setIfInBounds_toArray, List.set_cons_zero, List.set_cons_succ]
  rfl
 refine pure_ (i := 2) (N := (some 7)) (v := ?_) (a' := ?_) #[true, true, true, false, false, false, false, false, false, false, false, false, false] rfl rfl (by kernel_rfl) (fun _ _ _ h => h) (Or.inl ⟨by rfl, ?_⟩) ?_ ?_
 rotate_left
 ·intro w'
  go_simp
  with_reducible rfl
 rotate_left
 ·simp only [Act.put, List.setIfInBounds_toArray, List.set_cons_zero, List.set_cons_succ]
  rfl
 refine pure_ (i := 3) (N := (some 8)) (v := ?_) (a' := ?_) #[true, true, true, true, false, false, false, false, false, false, false, false, false] rfl rfl (by kernel_rfl) (fun _ _ _ h => h) (Or.inl ⟨by rfl, ?_⟩) ?_ ?_
 rotate_left
 ·intro w'
  go_simp
  with_reducible rfl
 rotate_left
 ·simp only [Act.put, List.setIfInBounds_toArray, List.set_cons_zero, List.set_cons_succ]
  rfl
 refine pure_ (i := 4) (N := (some 9)) (v := ?_) (a' := ?_) #[true, true, true, true, true, false, false, false, false, false, false, false, false] rfl rfl (by kernel_rfl) (fun _ _ _ h => h) (Or.inl ⟨by rfl, ?_⟩) ?_ ?_
 rotate_left
 ·intro w'
  go_simp
  with_reducible rfl
 rotate_left
 ·simp only [Act.put, List.setIfInBounds_toArray, List.set_cons_zero, List.set_cons_succ]
  rfl
 refine take_ (i := 5) (N := (some 10)) (v := ?_) (a' := ?_) #[true, true, true, true, true, true, false, false, false, false, false, false, false] rfl rfl (by kernel_rfl) (fun _ _ _ h => h) (Or.inl ⟨by rfl, ?_⟩) hS0 ?_ ?_
 rotate_left
 ·intro w' s0
  have hx1 := (s0.cell (World.block_lt_of_cell? _ _ x1)).trans x1
  go_simp
  with_reducible rfl
 rotate_left
 ·simp only [Act.put, List.setIfInBounds_toArray, List.set_cons_zero, List.set_cons_succ]
  rfl
 refine pure_ (i := 6) (N := (some 11)) (v := ?_) (a' := ?_) #[true, true, true, true, true, true, true, false, false, false, false, false, false] rfl rfl (by kernel_rfl) (fun _ _ _ h => h) (Or.inl ⟨by rfl, ?_⟩) ?_ ?_
 rotate_left
 ·intro w'
  go_simp
  with_reducible rfl
 rotate_left
 ·simp only [Act.put, List.setIfInBounds_toArray, List.set_cons_zero, List.set_cons_succ]
  rfl
 refine pure_ (i := 7) (N := (some 12)) (v := ?_) (a' := ?_) #[true, true, true, true, true, true, true, true, false, false, false, false, false] rfl rfl (by kernel_rfl) (fun _ _ _ h => h) (Or.inl ⟨by rfl, ?_⟩) ?_ ?_
 rotate_left
 ·intro w'
  go_simp
  with_reducible rfl
 rotate_left
 ·simp only [Act.put, List.setIfInBounds_toArray, List.set_cons_zero, List.set_cons_succ]
  rfl
 refine pure_ (i := 8) (N := (some 13)) (v := ?_) (a' := ?_) #[true, true, true, true, true, true, true, true, true, false, false, false, false] rfl rfl (by kernel_rfl) (fun _ _ _ h => h) (Or.inl ⟨by rfl, ?_⟩) ?_ ?_
 rotate_left
 ·intro w'
  go_simp
  with_reducible rfl
 rotate_left
 ·simp only [Act.put, List.setIfInBounds_toArray, List.set_cons_zero, List.set_cons_succ]
  rfl
 refine take_ (i := 9) (N := (some 14)) (v := ?_) (a' := ?_) #[true, true, true, true, true, true, true, true, true, true, false, false, false] rfl rfl (by kernel_rfl) (fun _ _ _ h => h) (Or.inl ⟨by rfl, ?_⟩) hS0 ?_ ?_
 rotate_left
 ·intro w' s0
  have hx0 := (s0.cell (World.block_lt_of_cell? _ _ c0)).trans c0
  go_simp
  with_reducible rfl
 rotate_left
 ·simp only [Act.put, List.setIfInBounds_toArray, List.set_cons_zero, List.set_cons_succ]
  rfl
 refine pure_ (i := 10) (N := (some 15)) (v := ?_) (a' := ?_) #[true, true, true, true, true, true, true, true, true, true, true, false, false] rfl rfl (by kernel_rfl) (fun _ _ _ h => h) (Or.inl ⟨by rfl, ?_⟩) ?_ ?_
 rotate_left
 ·intro w'
  go_simp
  with_reducible rfl
 rotate_left
 ·simp only [Act.put, List.setIfInBounds_toArray, List.set_cons_zero, List.set_cons_succ]
  rfl
 refine pure_ (i := 11) (N := (some 16)) (v := ?_) (a' := ?_) #[true, true, true, true, true, true, true, true, true, true, true, true, false] rfl rfl (by kernel_rfl) (fun _ _ _ h => h) (Or.inl ⟨by rfl, ?_⟩) ?_ ?_
 rotate_left
 ·intro w'
  go_simp
  with_reducible rfl
 rotate_left
 ·simp only [Act.put, List.setIfInBounds_toArray, List.set_cons_zero, List.set_cons_succ]
  rfl
 refine pure_ (i := 12) (N := (some 17)) (v := ?_) (a' := ?_) #[true, true, true, true, true, true, true, true, true, true, true, true, true] rfl rfl (by kernel_rfl) (fun _ _ _ h => h) (Or.inl ⟨by rfl, ?_⟩) ?_ ?_
 rotate_left
 ·intro w'
  go_simp
  with_reducible rfl
 rotate_left
 ·simp only [Act.put, List.setIfInBounds_toArray, List.set_cons_zero, List.set_cons_succ]
  rfl
 refine done_ (by kernel_rfl) ?_
 clear hS0 c0 x0 x1
 go_upto_region 3 with (fail)
 have HP2 := Aside0.mk (HP1.out.below HB2.out)
 have HX2 : Aside0 (w2.heap[gb]? = some (.cells #[.int .i64 lo, .int .i64 hi] 33 (0, 0))) := ⟨(HB2.out.block _ (blk_lt HX.out)).trans HX.out⟩
 have x0 := (blk_cell HX2.out 0).trans rfl
 have x1 := (blk_cell HX2.out 1).trans rfl
 have c1 := (blk_cell HP2.out.h1 1).trans rfl
 have HB02 : Aside0 (Below w.heap.size w w2) := ⟨below_step HB1.out HB2.out⟩
 have HSJ : Aside0 (Kd.C k33 w2 At J.length J) := ⟨(Kd.R_reads' HP2.out.h3).2.2⟩
 have HBD2 : Aside0 (Below w2.heap.size w2 w2.drew) := ⟨below_drew (Below.refl _ _)⟩
 refine start_ (n := 12) (S := (fun W => Below w2.heap.size w2 W)) (ds := [11]) #[false, false, false, false, false, false, false, false, false, false, false, false] (by kernel_rfl) (by kernel_rfl) (by rfl) HBD2.out (fun hS0 => ?_)
 refine pure_ (i := 0) (N := (some 18)) (v := ?_) (a' := ?_) #[true, false, false, false, false, false, false, false, false, false, false, false] rfl rfl (by kernel_rfl) (fun _ _ _ h => h) (Or.inl ⟨by rfl, ?_⟩) ?_ ?_
 rotate_left
 ·intro w'
  go_simp
  with_reducible rfl
 rotate_left
 ·simp only [Act.put, List.setIfInBounds_toArray, List.set_cons_zero, List.set_cons_succ]
  rfl
 refine pure_ (i := 1) (N := (some 19)) (v := ?_) (a' := ?_) #[true, true, false, false, false, false, false, false, false, false, false, false] rfl rfl (by kernel_rfl) (fun _ _ _ h => h) (Or.inl ⟨by rfl, ?_⟩) ?_ ?_
 rotate_left
 ·intro w'
  go_simp
  with_reducible rfl
 rotate_left
 ·simp only [Act.put, List.setIfInBounds_toArray, List.set_cons_zero, List.set_cons_succ]
  rfl
 refine pure_ (i := 2) (N := (some 20)) (v := ?_) (a' := ?_) #[true, true, true, false, false, false, false, false, false, false, false, false] rfl rfl (by kernel_rfl) (fun _ _ _ h => h) (Or.inl ⟨by rfl, ?_⟩) ?_ ?_
 rotate_left
 ·intro w'
  go_simp
  with_reducible rfl
 rotate_left
 ·simp only [Act.put, List.setIfInBounds_toArray, List.set_cons_zero, List.set_cons_succ]
  rfl
 refine pure_ (i := 3) (N := (some 21)) (v := ?_) (a' := ?_) #[true, true, true, true, false, false, false, false, false, false, false, false] rfl rfl (by kernel_rfl) (fun _ _ _ h => h) (Or.inl ⟨by rfl, ?_⟩) ?_ ?_
 rotate_left
 ·intro w'
  go_simp
  with_reducible rfl
 rotate_left
 ·simp only [Act.put, List.setIfInBounds_toArray, List.set_cons_zero, List.set_cons_succ]
  rfl
 refine take_ (i := 4) (N := (some 22)) (v := ?_) (a' := ?_) #[true, true, true, true, true, false, false, false, false, false, false, false] rfl rfl (by kernel_rfl) (fun _ _ _ h => h) (Or.inl ⟨by rfl, ?_⟩) hS0 ?_ ?_
 rotate_left
 ·intro w' s0
  have hx0 := (s0.cell (World.block_lt_of_cell? _ _ c1)).trans c1
  go_simp
  with_reducible rfl
 rotate_left
 ·simp only [Act.put, List.setIfInBounds_toArray, List.set_cons_zero, List.set_cons_succ]
  rfl
 refine take_ (i := 6) (N := (some 24)) (v := ?_) (a' := ?_) #[true, true, true, true, true, false, true, false, false, false, false, false] rfl rfl (by kernel_rfl) (fun _ _ _ h => h) (Or.inl ⟨by rfl, ?_⟩) hS0 ?_ ?_
 rotate_left
 ·intro w' s0
  have hx0 := (s0.cell (World.block_lt_of_cell? _ _ x0)).trans x0
  have hx1 := (s0.cell (World.block_lt_of_cell? _ _ x1)).trans x1
  go_simp
  with_reducible rfl
 rotate_left
 ·simp only [Act.put, List.setIfInBounds_toArray, List.set_cons_zero, List.set_cons_succ]
  rfl
 clear hS0
 refine two_ (i := 5) (j := 7) (Ni := some 23) (Nj := some 25) #[true, true, true, true, true, true, true, false, false, false, false, false] #[true, true, true, true, true, false, true, true, false, false, false, false] rfl rfl rfl rfl (by kernel_rfl) (by decide) (by decide) (fun K hK => ?_) (fun K hK => ?_)
 ·refine Kd.R_append_rows_step k33 (w0 := w2) w2.heap.size (by rfl) (.const (.slice none 0 0)) (.tmp 22) 49 33 (.agg #[.int .i64 0, .int .i64 0]) 16 rfl Try.underlying49 info33 rfl (by decide) (by omega) (.slice none 0 0) [] J At J.length ct (fun _ => True) (fun _ => False) rfl rfl (Kd.R_nil _ _ _ _ _) (Kd.C_below HSJ.out HBD2.out) (fun x cs h => by rw [k33_open h]; exact k33_mkM _ _ _ x) (fun _ h => h.elim) (fun _ _ => trivial) HBD2.out HBD2.out.size (by have := HJ.out; simp only [List.length_nil]; omega) ?_
  intro v1 w3 hv hb hg hat
  rw [List.nil_append] at hv
  obtain ⟨A5, c5, e5⟩ := Kd.R_slice hv
  subst e5
  have HV := Aside0.mk hv
  have HBw3 := Aside0.mk hb
  clear hv hb hg hat
  change K (Act.put _ (some 23) _) _
  refine hK.out _ _ HBw3.out (fun hS0 => ?_)
  clear hK
  refine norm_ (a' := ?_) ?_ ?_
  rotate_left
  ·simp only [Act.put, List.setIfInBounds_toArray, List.set_cons_zero, List.set_cons_succ]
   rfl
  clear hS0
  refine one_ (i := 7) (N := (some 25)) #[true, true, true, true, true, true, true, true, false, false, false, false] rfl rfl (by kernel_rfl) (by decide) (fun K hK => ?_)
  obtain ⟨w4, eww4⟩ : ∃ W, W = w3.alloc (cells33 ⟨lo, hi⟩) := ⟨_, rfl⟩
  obtain ⟨ga, hga⟩ : ∃ ga, ga = w3.heap.size := ⟨_, rfl⟩
  have HBw4 : Aside0 (Below w2.heap.size w2 w4) := ⟨by rw [eww4]; exact below_alloc HBw3.out _⟩
  have HXA : Aside0 (w4.heap[ga]? = some (cells33 ⟨lo, hi⟩)) := ⟨by rw [eww4, hga]; exact (MapKept.heap_alloc w3 _).1⟩
  have HBA : Aside0 (Below w3.heap.size w3 w4) := ⟨by rw [eww4]; exact below_alloc (Below.refl _ _) _⟩
  refine value_ (w1 := w4) (v := .slice (some ⟨ga, 0, none⟩) 1 1) (by rfl) rfl (by rw [eww4, hga]; go_simp) ?_
  clear eww4 hga
  change K (Act.put _ (some 25) _) _
  refine hK.out _ _ HBw4.out (fun hS0 => ?_)
  clear hK
  refine norm_ (a' := ?_) ?_ ?_
  rotate_left
  ·simp only [Act.put, List.setIfInBounds_toArray, List.set_cons_zero, List.set_cons_succ]
   rfl
  have HXB := HXA
  clear hS0
  refine one_ (i := 8) (N := (some 26)) #[true, true, true, true, true, true, true, true, true, false, false, false] rfl rfl (by kernel_rfl) (by decide) (fun K hK => ?_)
  refine Kd.R_append_rows_step k33 (w0 := w2) w2.heap.size (by rfl) (.tmp 23) (.tmp 25) 49 33 (.agg #[.int .i64 0, .int .i64 0]) 16 rfl Try.underlying49 info33 rfl (by decide) (by omega) _ J [⟨lo, hi⟩] (some ⟨ga, 0, none⟩) 1 1 (fun _ => True) (fun _ => False) rfl rfl (Kd.R_below HV.out HBA.out) (one33 HXB.out) (fun x cs h => by rw [k33_open h]; exact k33_mkM _ _ _ x) (fun _ h => h.elim) (fun _ _ => trivial) HBw4.out HBw4.out.size (by have := HJ.out; omega) ?_
  intro v2 w5 hv hb hg hat
  obtain ⟨A6, c6, e6⟩ := Kd.R_slice hv
  rw [List.length_append, List.length_singleton] at e6
  subst e6
  have HV6 := Aside0.mk hv
  have HB5 := Aside0.mk hb
  clear hv hb hg hat
  change K (Act.put _ (some 26) _) _
  refine hK.out _ _ HB5.out (fun hS0 => ?_)
  clear hK
  refine norm_ (a' := ?_) ?_ ?_
  rotate_left
  ·simp only [Act.put, List.setIfInBounds_toArray, List.set_cons_zero, List.set_cons_succ]
   rfl
  have y1 : w5.cell? ⟨b, 1, none⟩ = some (.slice At J.length ct) := (HB5.out.cell (World.block_lt_of_cell? _ _ c1)).trans c1
  have y2 : w5.frozen? ⟨b, 1, none⟩ = false := blk_frozen ((HB5.out.block b (blk_lt HP2.out.h1)).trans HP2.out.h1) 1
  refine pure_ (i := 9) (N := (some 27)) (v := ?_) (a' := ?_) #[true, true, true, true, true, true, true, true, true, true, false, false] rfl rfl (by kernel_rfl) (fun _ _ _ h => h) (Or.inl ⟨by rfl, ?_⟩) ?_ ?_
  rotate_left
  ·intro w'
   go_simp
   with_reducible rfl
  rotate_left
  ·simp only [Act.put, List.setIfInBounds_toArray, List.set_cons_zero, List.set_cons_succ]
   rfl
  refine pure_ (i := 10) (N := (some 28)) (v := ?_) (a' := ?_) #[true, true, true, true, true, true, true, true, true, true, true, false] rfl rfl (by kernel_rfl) (fun _ _ _ h => h) (Or.inl ⟨by rfl, ?_⟩) ?_ ?_
  rotate_left
  ·intro w'
   go_simp
   with_reducible rfl
  rotate_left
  ·simp only [Act.put, List.setIfInBounds_toArray, List.set_cons_zero, List.set_cons_succ]
   rfl
  clear hS0
  refine last_ (i := 11) (N := none) #[true, true, true, true, true, true, true, true, true, true, true, true] rfl rfl (by kernel_rfl) (by decide) (fun K hK => ?_)
  refine skip_ (w1 := w5.setCell ⟨b, 1, none⟩ (.slice A6 (J.length + 1) c6)) (by rfl) rfl (by go_simp) ?_
  refine hK.out _ _ ?_
  clear hK
  refine done_ (by kernel_rfl) ?_
  go_wp2
  go_ret
  obtain ⟨q1, q2⟩ := HP.out.join (below_step HB02.out HB5.out) (World.grownBy.refl _ _) (v1 := .slice A6 (J.length + 1) c6) (Kd.R_lower (Kd.R_mono (Kd.R_bound HV6.out) (fun q hq => .inr (Nat.le_trans HB02.out.size hq.2.1))) (Nat.zero_le _))
  exact ⟨rfl, q1, q2⟩
 ·obtain ⟨w3, eww3⟩ : ∃ W, W = w2.drew.alloc (cells33 ⟨lo, hi⟩) := ⟨_, rfl⟩
  obtain ⟨ga, hga⟩ : ∃ ga, ga = w2.drew.heap.size := ⟨_, rfl⟩
  have HBw3 : Aside0 (Below w2.heap.size w2 w3) := ⟨by rw [eww3]; exact below_alloc HBD2.out _⟩
  have HXA : Aside0 (w3.heap[ga]? = some (cells33 ⟨lo, hi⟩)) := ⟨by rw [eww3, hga]; exact (MapKept.heap_alloc w2.drew _).1⟩
  have HBA : Aside0 (Below w2.drew.heap.size w2.drew w3) := ⟨by rw [eww3]; exact below_alloc (Below.refl _ _) _⟩
  refine value_ (w1 := w3) (v := .slice (some ⟨ga, 0, none⟩) 1 1) (by rfl) rfl (by rw [eww3, hga]; go_simp) ?_
  clear eww3 hga
  change K (Act.put _ (some 25) _) _
  refine hK.out _ _ HBw3.out (fun hS0 => ?_)
  clear hK
  refine norm_ (a' := ?_) ?_ ?_
  rotate_left
  ·simp only [Act.put, List.setIfInBounds_toArray, List.set_cons_zero, List.set_cons_succ]
   rfl
  clear hS0
  refine one_ (i := 5) (N := (some 23)) #[true, true, true, true, true, true, true, true, false, false, false, false] rfl rfl (by kernel_rfl) (by decide) (fun K hK => ?_)
  refine Kd.R_append_rows_step k33 (w0 := w2) w2.heap.size (by rfl) (.const (.slice none 0 0)) (.tmp 22) 49 33 (.agg #[.int .i64 0, .int .i64 0]) 16 rfl Try.underlying49 info33 rfl (by decide) (by omega) (.slice none 0 0) [] J At J.length ct (fun _ => True) (fun _ => False) rfl rfl (Kd.R_nil _ _ _ _ _) (Kd.C_below HSJ.out HBw3.out) (fun x cs h => by rw [k33_open h]; exact k33_mkM _ _ _ x) (fun _ h => h.elim) (fun _ _ => trivial) HBw3.out HBw3.out.size (by have := HJ.out; simp only [List.length_nil]; omega) ?_
  intro v1 w4 hv hb hg hat
  rw [List.nil_append] at hv
  obtain ⟨A5, c5, e5⟩ := Kd.R_slice hv
  subst e5
  have HV := Aside0.mk hv
  have HBw4 := Aside0.mk hb
  have HXC : Aside0 (w4.heap[ga]? = some (cells33 ⟨lo, hi⟩)) := ⟨(hg.block ga (blk_lt HXA.out) (fun e => by cases e)).trans HXA.out⟩
  clear hv hb hg hat
  change K (Act.put _ (some 23) _) _
  refine hK.out _ _ HBw4.out (fun hS0 => ?_)
  clear hK
  refine norm_ (a' := ?_) ?_ ?_
  rotate_left
  ·simp only [Act.put, List.setIfInBounds_toArray, List.set_cons_zero, List.set_cons_succ]
   rfl
  have HXB : Aside0 (w4.heap[ga]? = some (cells33 ⟨lo, hi⟩)) := HXC
  clear hS0
  refine one_ (i := 8) (N := (some 26)) #[true, true, true, true, true, true, true, true, true, false, false, false] rfl rfl (by kernel_rfl) (by decide) (fun K hK => ?_)
  refine Kd.R_append_rows_step k33 (w0 := w2) w2.heap.size (by rfl) (.tmp 23) (.tmp 25) 49 33 (.agg #[.int .i64 0, .int .i64 0]) 16 rfl Try.underlying49 info33 rfl (by decide) (by omega) _ J [⟨lo, hi⟩] (some ⟨ga, 0, none⟩) 1 1 (fun _ => True) (fun _ => False) rfl rfl HV.out (one33 HXB.out) (fun x cs h => by rw [k33_open h]; exact k33_mkM _ _ _ x) (fun _ h => h.elim) (fun _ _ => trivial) HBw4.out HBw4.out.size (by have := HJ.out; omega) ?_
  intro v2 w5 hv hb hg hat
  obtain ⟨A6, c6, e6⟩ := Kd.R_slice hv
  rw [List.length_append, List.length_singleton] at e6
  subst e6
  have HV6 := Aside0.mk hv
  have HB5 := Aside0.mk hb
  clear hv hb hg hat
  change K (Act.put _ (some 26) _) _
  refine hK.out _ _ HB5.out (fun hS0 => ?_)
  clear hK
  refine norm_ (a' := ?_) ?_ ?_
  rotate_left
  ·simp only [Act.put, List.setIfInBounds_toArray, List.set_cons_zero, List.set_cons_succ]
   rfl
  have y1 : w5.cell? ⟨b, 1, none⟩ = some (.slice At J.length ct) := (HB5.out.cell (World.block_lt_of_cell? _ _ c1)).trans c1
  have y2 : w5.frozen? ⟨b, 1, none⟩ = false := blk_frozen ((HB5.out.block b (blk_lt HP2.out.h1)).trans HP2.out.h1) 1
  refine pure_ (i := 9) (N := (some 27)) (v := ?_) (a' := ?_) #[true, true, true, true, true, true, true, true, true, true, false, false] rfl rfl (by kernel_rfl) (fun _ _ _ h => h) (Or.inl ⟨by rfl, ?_⟩) ?_ ?_
  rotate_left
  ·intro w'
   go_simp
   with_reducible rfl
  rotate_left
  ·simp only [Act.put, List.setIfInBounds_toArray, List.set_cons_zero, List.set_cons_succ]
   rfl
  refine pure_ (i := 10) (N := (some 28)) (v := ?_) (a' := ?_) #[true, true, true, true, true, true, true, true, true, true, true, false] rfl rfl (by kernel_rfl) (fun _ _ _ h => h) (Or.inl ⟨by rfl, ?_⟩) ?_ ?_
  rotate_left
  ·intro w'
   go_simp
   with_reducible rfl
  rotate_left
  ·simp only [Act.put, List.setIfInBounds_toArray, List.set_cons_zero, List.set_cons_succ]
   rfl
  clear hS0
  refine last_ (i := 11) (N := none) #[true, true, true, true, true, true, true, true, true, true, true, true] rfl rfl (by kernel_rfl) (by decide) (fun K hK => ?_)
  refine skip_ (w1 := w5.setCell ⟨b, 1, none⟩ (.slice A6 (J.length + 1) c6)) (by rfl) rfl (by go_simp) ?_
  refine hK.out _ _ ?_
  clear hK
  refine done_ (by kernel_rfl) ?_
  go_wp2
  go_ret
  obtain ⟨q1, q2⟩ := HP.out.join (below_step HB02.out HB5.out) (World.grownBy.refl _ _) (v1 := .slice A6 (J.length + 1) c6) (Kd.R_lower (Kd.R_mono (Kd.R_bound HV6.out) (fun q hq => .inr (Nat.le_trans HB02.out.size hq.2.1))) (Nat.zero_le _))
  exact ⟨rfl, q1, q2⟩
end Go.Proofs.Ytohhobcipfmkbaa.Cel
end
section
namespace Go.Proofs.Ytohhobcipfmkbaa.Cel
open Go.RowKit Go.Proofs.YtohhobcipfmkbaaW.PrintWords Go.Proofs.YtohhobcipfmkbaaW.PrintMore Go.Proofs.YtohhobcipfmkbaaW.PrintLast Go.Proofs.Ytohhobcipfmkbaa.U Go.Proofs.Ytohhobcipfmkbaa.PClusterFinest Go.Proofs.Ytohhobcipfmkbaa.UGroups Go.Proofs.Ytohhobcipfmkbaa.UFinEv
open Go.Proofs.Ytohhobcipfmkbaa.CFin (rd33 info33 cells33 one33)
set_option maxRecDepth 100000 in
set_option maxHeartbeats 8000000 in
theorem refClusters_c {w : World} {D : Nat → Prop} {b : Nat} {L : List (List Int)} {J : List S33} (h : CellsAt 68 w D b L J) (hN : L.length ≤ 1000000) (hJ : J.length ≤ 1000000) (hF : L.flatten.length ≤ 10000000) (R : Value → Int → World → Prop)
 (hfin : ∀ w1 u, SLk k45 w1 u (linksOf L (groups L.length J)).1 → Below w.heap.size w w1 → Calls Try.prog 33 #[.int .i64 L.length, .int .i64 (linksOf L (groups L.length J)).2, u] w1 fun e w' => ∃ u r, e = .returned (.tuple #[u, .int .i64 r]) ∧ R u r w' ∧ Below w1.heap.size w1 w') :
 Calls Try.prog 22 #[ptr b] w fun e w' => ∃ u r, e = .returned (.tuple #[u, .int .i64 r]) ∧ R u r w' ∧ Below w.heap.size w w' := by
 obtain ⟨Dr, Dt, A, c, vt, hp⟩ := h.open_
 obtain ⟨At, ct, evt⟩ := Kd.R_slice hp.h3
 subst evt
 have c0 := (blk_cell hp.h1 0).trans rfl
 have c1 := (blk_cell hp.h1 1).trans rfl
 have HC : Aside0 (Kd.C (Kd.slice 3 (Kd.int .i64)) w A L.length L) := ⟨by obtain ⟨A', c', e', h1, h2⟩ := hp.h2.reads 3; injection e' with e1 e2 e3; subst e1; exact h2⟩
 have HSJ := Aside0.mk (SLk.of_R hp.h3)
 have HN := Aside0.mk hN
 have HJ := Aside0.mk hJ
 have HF := Aside0.mk hF
 have HFIN := Aside0.mk hfin
 obtain ⟨gs, hgs⟩ : ∃ gs, gs = groups L.length J := ⟨_, rfl⟩
 have HGS := Aside0.mk hgs
 have HGM : Aside0 (∀ s ∈ gs, 0 ≤ s.f0 ∧ s.f0 < s.f1 ∧ s.f1 ≤ (L.length : Int)) := ⟨by rw [hgs]; exact grp_mem L.length J L.length (Nat.le_refl _)⟩
 have HGL : Aside0 (gs.length ≤ L.length) := ⟨by rw [hgs]; exact grp_len L.length J L.length⟩
 rw [← hgs] at HFIN
 clear h hp hN hJ hF hfin hgs
 go_enter Try.func22, Try.ntmps22
 go_upto_region 1 with (fail)
 have HBD : Aside0 (Below w.heap.size w w.drew) := ⟨below_drew (Below.refl _ _)⟩
 refine start_ (n := 11) (S := (fun W => Below w.heap.size w W)) (ds := []) #[false, false, false, false, false, false, false, false, false, false, false] (by kernel_rfl) (by kernel_rfl) (by rfl) HBD.out (fun hS0 => ?_)
 refine pure_ (i := 0) (N := (some 10)) (v := ?_) (a' := ?_) #[true, false, false, false, false, false, false, false, false, false, false] rfl rfl (by kernel_rfl) (fun _ _ _ h => h) (Or.inl ⟨by rfl, ?_⟩) ?_ ?_
 rotate_left
 ·intro w'
  go_simp
  with_reducible rfl
 rotate_left
 ·simp only [Act.put, List.setIfInBounds_toArray, List.set_cons_zero, List.set_cons_succ]
  rfl
 refine pure_ (i := 1) (N := (some 11)) (v := ?_) (a' := ?_) #[true, true, false, false, false, false, false, false, false, false, false] rfl rfl (by kernel_rfl) (fun _ _ _ h => h) (Or.inl ⟨by rfl, ?_⟩) ?_ ?_
 rotate_left
 ·intro w'
  go_simp
  with_reducible rfl
 rotate_left
 ·simp only [Act.put, List.setIfInBounds_toArray, List.set_cons_zero, List.set_cons_succ]
  rfl
 refine pure_ (i := 2) (N := (some 12)) (v := ?_) (a' := ?_) #[true, true, true, false, false, false, false, false, false, false, false] rfl rfl (by kernel_rfl) (fun _ _ _ h => h) (Or.inl ⟨by rfl, ?_⟩) ?_ ?_
 rotate_left
 ·intro w'
  go_simp
  with_reducible rfl
 rotate_left
 ·simp only [Act.put, List.setIfInBounds_toArray, List.set_cons_zero, List.set_cons_succ]
  rfl
 refine take_ (i := 3) (N := (some 13)) (v := ?_) (a' := ?_) #[true, true, true, true, false, false, false, false, false, false, false] rfl rfl (by kernel_rfl) (fun _ _ _ h => h) (Or.inl ⟨by rfl, ?_⟩) hS0 ?_ ?_
 rotate_left
 ·intro w' s0
  have hx0 := (s0.cell (World.block_lt_of_cell? _ _ c0)).trans c0
  go_simp
  with_reducible rfl
 rotate_left
 ·simp only [Act.put, List.setIfInBounds_toArray, List.set_cons_zero, List.set_cons_succ]
  rfl
 refine pure_ (i := 4) (N := (some 14)) (v := ?_) (a' := ?_) #[true, true, true, true, true, false, false, false, false, false, false] rfl rfl (by kernel_rfl) (fun _ _ _ h => h) (Or.inl ⟨by rfl, ?_⟩) ?_ ?_
 rotate_left
 ·intro w'
  go_simp
  with_reducible rfl
 rotate_left
 ·simp only [Act.put, List.setIfInBounds_toArray, List.set_cons_zero, List.set_cons_succ]
  rfl
 refine pure_ (i := 5) (N := (some 15)) (v := ?_) (a' := ?_) #[true, true, true, true, true, true, false, false, false, false, false] rfl rfl (by kernel_rfl) (fun _ _ _ h => h) (Or.inl ⟨by rfl, ?_⟩) ?_ ?_
 rotate_left
 ·intro w'
  go_simp
  with_reducible rfl
 rotate_left
 ·simp only [Act.put, List.setIfInBounds_toArray, List.set_cons_zero, List.set_cons_succ]
  rfl
 refine pure_ (i := 6) (N := (some 16)) (v := ?_) (a' := ?_) #[true, true, true, true, true, true, true, false, false, false, false] rfl rfl (by kernel_rfl) (fun _ _ _ h => h) (Or.inl ⟨by rfl, ?_⟩) ?_ ?_
 rotate_left
 ·intro w'
  go_simp
  with_reducible rfl
 rotate_left
 ·simp only [Act.put, List.setIfInBounds_toArray, List.set_cons_zero, List.set_cons_succ]
  rfl
 refine pure_ (i := 7) (N := (some 17)) (v := ?_) (a' := ?_) #[true, true, true, true, true, true, true, true, false, false, false] rfl rfl (by kernel_rfl) (fun _ _ _ h => h) (Or.inl ⟨by rfl, ?_⟩) ?_ ?_
 rotate_left
 ·intro w'
  go_simp
  with_reducible rfl
 rotate_left
 ·simp only [Act.put, List.setIfInBounds_toArray, List.set_cons_zero, List.set_cons_succ]
  rfl
 refine take_ (i := 8) (N := (some 18)) (v := ?_) (a' := ?_) #[true, true, true, true, true, true, true, true, true, false, false] rfl rfl (by kernel_rfl) (fun _ _ _ h => h) (Or.inl ⟨by rfl, ?_⟩) hS0 ?_ ?_
 rotate_left
 ·intro w' s0
  have hx0 := (s0.cell (World.block_lt_of_cell? _ _ c1)).trans c1
  go_simp
  with_reducible rfl
 rotate_left
 ·simp only [Act.put, List.setIfInBounds_toArray, List.set_cons_zero, List.set_cons_succ]
  rfl
 clear hS0
 refine one_ (i := 9) (N := (some 19)) #[true, true, true, true, true, true, true, true, true, true, false] rfl rfl (by kernel_rfl) (by decide) (fun K hK => ?_)
 refine goes_ Try.func51 (by kernel_rfl) rfl #[.int .i64 L.length, .slice At J.length ct] (by rfl) rfl rfl (by go_simp; done) ?_
 refine (refGroups_c L.length HN.out (SLk.below HSJ.out HBD.out) HJ.out).mono ?_
 rintro e w2 ⟨u, rfl, hR, hb2⟩
 rw [← HGS.out] at hR
 obtain ⟨A2, c2, eu⟩ := Kd.R_slice hR
 subst eu
 refine ⟨_, rfl, ?_⟩
 have HG2 := Aside0.mk (Kd.R_lower hR (Nat.zero_le _))
 have HB2 : Aside0 (Below w.heap.size w w2) := ⟨below_step HBD.out hb2⟩
 clear hR hb2
 change K (Act.put _ (some 19) _) _
 refine hK.out _ _ HB2.out (fun hS0 => ?_)
 clear hK
 refine norm_ (a' := ?_) ?_ ?_
 rotate_left
 ·simp only [Act.put, List.setIfInBounds_toArray, List.set_cons_zero, List.set_cons_succ]
  rfl
 refine pure_ (i := 10) (N := (some 4)) (v := ?_) (a' := ?_) #[true, true, true, true, true, true, true, true, true, true, true] rfl rfl (by kernel_rfl) (fun _ _ _ h => h) (Or.inl ⟨by rfl, ?_⟩) ?_ ?_
 rotate_left
 ·intro w'
  go_simp
  with_reducible rfl
 rotate_left
 ·simp only [Act.put, List.setIfInBounds_toArray, List.set_cons_zero, List.set_cons_succ]
  rfl
 refine done_ (by kernel_rfl) ?_
 clear hS0 HBD
 go_wp2
 go_loopw [5, 6, 7] (fun v5 v6 v wr => ∃ k : Nat, v = .int .i64 (k : Int) ∧ k ≤ gs.length ∧ v6 = .int .i64 ((linksOf L (gs.take k)).2 : Nat) ∧ Aside0 (Kd.R k45 45 wr w.heap.size (fun _ => True) v5 (linksOf L (gs.take k)).1) ∧ Aside0 (Kd.R k33 33 wr 0 (fun _ => True) (.slice A2 gs.length c2) gs) ∧ Aside0 (Below w.heap.size w wr)) (fun _ _ v _ => gs.length - (intOf v).toNat)
 case atStart => exact ⟨0, rfl, Nat.zero_le _, rfl, ⟨Kd.R_nil _ _ _ _ _⟩, HG2, HB2⟩
 case round =>
  clear HG2 HB2
  obtain ⟨wo, ewo⟩ : ∃ wo, wo = wr := ⟨_, rfl⟩
  subst ewo
  obtain ⟨k, rfl, hk, rfl, HR, HG, HB⟩ := hrel
  have r0 := (HB.out.cell (World.block_lt_of_cell? _ _ c0)).trans c0
  by_cases hlt : k < gs.length
  ·obtain ⟨x, hx⟩ : ∃ x, x = gs[k] := ⟨_, rfl⟩
   have hxm := HGM.out x (by rw [hx]; exact List.getElem_mem hlt)
   obtain ⟨lo, hlo⟩ : ∃ lo : Nat, x.f0 = (lo : Int) := ⟨x.f0.toNat, by omega⟩
   obtain ⟨hi, hhi⟩ : ∃ hi : Nat, x.f1 = (hi : Int) := ⟨x.f1.toNat, by omega⟩
   obtain ⟨ad, ead, y0, y1⟩ := at_T33 (Kd.R_reads' HG.out).2.2 (k : Int) (by omega) (by omega)
   rw [rd33 hlt, Int.toNat_natCast, ← hx, hlo] at y0
   rw [rd33 hlt, Int.toNat_natCast, ← hx, hhi] at y1
   have hxe : x = ⟨(lo : Int), (hi : Int)⟩ := by rw [← hlo, ← hhi]
   obtain ⟨q, hq⟩ : ∃ q, q = linksOf L (gs.take k) := ⟨_, rfl⟩
   have HNX : Aside0 (linksOf L (gs.take (k + 1)) = linkStep L q ⟨(lo : Int), (hi : Int)⟩) := ⟨by rw [linksOf_take L hlt, ← hx, hxe, ← hq]⟩
   have hle := linksOf_le L gs k (by omega)
   rw [← hq] at hle HR ⊢
   have hF := HF.out
   have hNN := HN.out
   have hGL := HGL.out
   have hmul : k * L.flatten.length ≤ 1000000 * 10000000 := Nat.mul_le_mul (by omega) hF
   have HQ2 : Aside0 (q.2 ≤ 10000000000000) := ⟨by omega⟩
   have HQ1 : Aside0 (q.1.length ≤ 1000000) := ⟨by omega⟩
   obtain ⟨e0, he0⟩ : ∃ e0, e0 = q.2 := ⟨_, rfl⟩
   have HE0 := Aside0.mk he0
   rw [← he0] at HQ2 ⊢
   obtain ⟨AL, cL, eL⟩ := Kd.R_slice HR.out
   subst eL
   have HLH : Aside0 (lo < hi ∧ hi ≤ L.length) := ⟨by omega, by omega⟩
   have hkI : (k : Int) < (gs.length : Int) := by omega
   have hk8 : (k : Int) ≤ 1000000 := by omega
   obtain ⟨rs, hrs⟩ : ∃ rs, rs = rowOf L lo hi := ⟨_, rfl⟩
   have hrl : rs.length = hi - lo := by rw [hrs]; unfold rowOf; rw [List.length_take, List.length_drop]; omega
   have HRS := Aside0.mk hrs
   have HRL := Aside0.mk hrl
   have HFS : Aside0 (rs.flatten.length ≤ 10000000) := ⟨by rw [hrs]; exact Nat.le_trans (rowOf_le L lo hi) hF⟩
   have HAT : Aside0 (∀ j, j < rs.length → lo + j < L.length ∧ L.getD (lo + j) [] = rs.getD j []) := ⟨fun j hj => by
    refine ⟨by omega, ?_⟩
    rw [hrs]
    unfold rowOf
    rw [List.getD_eq_getElem?_getD, List.getD_eq_getElem?_getD, List.getElem?_take, if_pos (by omega), List.getElem?_drop]⟩
   subst ead
   clear hx hxm hlo hhi hxe hq hle hF hNN hGL hmul he0 hrs hrl
   go_wp2
   go_loopw [6, 9] (fun v6 v wr => ∃ j : Nat, v = .int .i64 ((lo + j : Nat) : Int) ∧ j ≤ rs.length ∧ v6 = .int .i64 ((e0 + (rs.take j).flatten.length : Nat) : Int) ∧ wr = wo) (fun _ v _ => hi - (intOf v).toNat)
   case atStart => exact ⟨0, rfl, Nat.zero_le _, by simp, by first | trivial | rfl⟩
   case round =>
    obtain ⟨j, rfl, hj, rfl, ewr⟩ := hrel
    subst ewr
    by_cases hlj : j < rs.length
    ·obtain ⟨hln, hget⟩ := HAT.out j hlj
     obtain ⟨y, hy⟩ : ∃ y, y = rs[j] := ⟨_, rfl⟩
     obtain ⟨p, hp⟩ : ∃ p, p = lo + j := ⟨_, rfl⟩
     rw [← hp] at hln hget ⊢
     obtain ⟨ae, cs, eae, _, hK, hcell⟩ := Kd.C_get (Kd.C_below HC.out HB.out) [] (p : Int) (by omega) (by omega)
     rw [Int.toNat_natCast, hget, show rs.getD j [] = y by rw [hy, List.getD_eq_getElem?_getD, List.getElem?_eq_getElem hlj]; rfl] at hK
     obtain ⟨A', c', rfl, hc', hC'⟩ := hK
     have z0 := hcell 0 _ rfl
     rw [Int.toNat_natCast, show (Kd.slice 3 (Kd.int .i64)).sz = 1 from rfl, Nat.add_zero, Nat.mul_one] at z0
     have HNJ : Aside0 ((rs.take (j + 1)).flatten.length = (rs.take j).flatten.length + y.length) := ⟨by rw [flat_take hlj, List.length_append, hy]⟩
     have HLE : Aside0 ((rs.take (j + 1)).flatten.length ≤ 10000000) := ⟨Nat.le_trans (flat_le rs (j + 1)) HFS.out⟩
     obtain ⟨s, hs⟩ : ∃ s, s = (rs.take j).flatten.length := ⟨_, rfl⟩
     rw [← hs] at HNJ ⊢
     have hsl : s + y.length ≤ 10000000 := by rw [← HNJ.out]; exact HLE.out
     have hq2 := HQ2.out
     have ew : IntKind.i64.wrap ((e0 : Int) + (s : Int) + (y.length : Int)) = (e0 : Int) + (s : Int) + (y.length : Int) := IntWalk.i64_in _ (by omega)
     have hes : ((e0 + s : Nat) : Int) = (e0 : Int) + (s : Int) := by omega
     rw [hes]
     clear hes
     have hpI : (p : Int) < (hi : Int) := by have := HRL.out; omega
     have hpL : (p : Int) < (L.length : Int) := by omega
     have hp8 : (p : Int) ≤ 1000000 := by have := HN.out; omega
     have HPE := Aside0.mk hp
     subst eae
     clear hy hcell hC' hc' hs hsl hq2 hp hget hln
     go_wp2
     exact ⟨⟨j + 1, by rw [show ((lo + (j + 1) : Nat) : Int) = (p : Int) + 1 by have := HPE.out; omega]; try go_num, by omega, by rw [HNJ.out, show ((e0 + (s + y.length) : Nat) : Int) = (e0 : Int) + (s : Int) + (y.length : Int) by omega], by first | trivial | rfl⟩, by have := HPE.out; simp [intOf]; omega⟩
    ·obtain rfl : j = rs.length := by omega
     rw [List.take_length]
     have elh : lo + rs.length = hi := by have := HRL.out; have := HLH.out; omega
     rw [elh]
     obtain ⟨e1, he1⟩ : ∃ e1, e1 = e0 + rs.flatten.length := ⟨_, rfl⟩
     rw [← he1]
     have HSTEP : Aside0 (linksOf L (gs.take (k + 1)) = (if e0 < e1 then q.1 ++ [⟨⟨(lo : Int), (hi : Int)⟩, ⟨(e0 : Int), (e1 : Int)⟩⟩] else q.1, e1)) := ⟨by
      rw [HNX.out]
      unfold linkStep
      dsimp only
      rw [Int.toNat_natCast, Int.toNat_natCast, ← HRS.out, ← HE0.out, ← he1]⟩
     clear hlj he1 elh
     by_cases hee : e0 < e1
     ·have hI : (e0 : Int) < (e1 : Int) := by omega
      have HNL := Aside0.mk hee; clear hee
      go_wp2_with ((with_reducible refine gate_builtin (b := .append) (xs := #[.tmp 54, .tmp 63]) rfl ?_); at_builtin; refine Kd.R_append k45 (w0 := w) w.heap.size rfl (.tmp 54) (.tmp 63) 40 45 (.agg #[(.int .i64 0), (.int .i64 0), (.int .i64 0), (.int .i64 0)]) 32 rfl Try.underlying40 info45 rfl (by decide) (by omega) _ q.1 (⟨⟨(lo : Int), (hi : Int)⟩, ⟨(e0 : Int), (e1 : Int)⟩⟩ : S45) [.int .i64 lo, .int .i64 hi, .int .i64 e0, .int .i64 e1] (fun _ => True) (fun _ => False) rfl (by first | (go_simp; done) | (go_simp; rfl)) (k45_mkM _ _ _ (⟨⟨(lo : Int), (hi : Int)⟩, ⟨(e0 : Int), (e1 : Int)⟩⟩ : S45)) (fun _ h => h.elim) (fun _ _ => trivial) HR.out HB.out HB.out.size (by have := HQ1.out; omega) ?_; intro v11 w11 hv hb hg hat; have HR11 := Aside0.mk hv; have HB11 := Aside0.mk hb; have HG11 : Aside0 (Kd.R k33 33 w11 0 (fun _ => True) (.slice (some ad) gs.length c2) gs) := ⟨Kd.R_mono (Kd.R_grown (Kd.R_bound HG.out) hg (fun p hp => apart33 HR.out hp)) (fun _ _ => trivial)⟩; clear hv hb hg hat)
      exact ⟨⟨k + 1, by go_num, by omega, by rw [HSTEP.out], ⟨by rw [HSTEP.out, if_pos HNL.out]; exact HR11.out⟩, HG11, HB11⟩, by simp [intOf]; omega⟩
     ·have hI : ¬ (e0 : Int) < (e1 : Int) := by omega
      have HNL := Aside0.mk hee; clear hee
      go_wp2
      exact ⟨⟨k + 1, by go_num, by omega, by rw [HSTEP.out], ⟨by rw [HSTEP.out, if_neg HNL.out]; exact HR.out⟩, HG, HB⟩, by simp [intOf]; omega⟩
  ·obtain rfl : k = gs.length := by omega
   rw [List.take_length] at HR ⊢
   clear hlt
   have HS := Aside0.mk (SLk.of_R HR.out)
   go_wp2_with (go_at_call 33; refine (HFIN.out _ _ HS.out HB.out).mono ?_; rintro e w12 ⟨u, r, rfl, hR, hb12⟩; have HRR := Aside0.mk hR; have HB12 : Aside0 (Below w.heap.size w w12) := ⟨below_step HB.out hb12⟩; clear hR hb12)
   refine bodyPost_ret (results_tmp2 rfl _ _ _) rfl ?_
   exact ⟨_, _, rfl, HRR.out, HB12.out⟩
end Go.Proofs.Ytohhobcipfmkbaa.Cel
end
