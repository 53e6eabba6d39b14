/- Texts of this claim, cut to what it needs. -/
import Derived.Test.YtemhccjjcioodaaGreatKCFinA
import Derived.StillTailTactics
import Derived.Maps.Own
import Derived.Maps.Views
import Derived.Test.YtemhccjjcioodaaGreatKPClusterFinestx1
import Derived.Test.YtemhccjjcioodaaGreatProg
import Derived.Below
import Derived.Deep.Draws
import Derived.Deep.AppendLies
import Derived.Maps.AppendAt
import Derived.OwnWalk
import Derived.Laws.BytesArg
import Derived.Laws.MakeOwn
import Derived.Laws.OwnMore
import Derived.Deep.OwnRows
import Derived.Tactics
import Derived.Lib.ConvBytes
import Derived.Laws.Slices
import Derived.WalkKit
import Derived.KernelRfl
import Derived.RowKit3
import Derived.Deep.LoopGhost
import Derived.Deep.QuietTactic
import Derived.BigQuiet
import Derived.WideLaws
import Derived.Deep.DeepCutAuto
import Derived.Deep.CutBlock
import Derived.Deep.RegionHeld3
import Derived.Laws.Rows
import Derived.Lib.AppendStr
import Derived.ArgAppend
import Derived.Laws.IdiomCopy
import Derived.OrdersHeld
import Derived.Laws.BitsLemmas
import Derived.RowKit
import Derived.Test.YtemhccjjcioodaaGreatKWLast
import Derived.Test.YtemhccjjcioodaaGreatKWMore
import Derived.Laws.StructEq
set_option linter.unusedSimpArgs false
set_option linter.unusedVariables false
section
namespace Go.Proofs.YtemhccjjcioodaaGreat.CFin
open Go.RowKit Go.Proofs.YtemhccjjcioodaaGreatW.PrintWords Go.Proofs.YtemhccjjcioodaaGreatW.PrintMore Go.Proofs.YtemhccjjcioodaaGreatW.PrintLast Go.Proofs.YtemhccjjcioodaaGreat.U Go.Proofs.YtemhccjjcioodaaGreat.PClusterFinest Go.Proofs.YtemhccjjcioodaaGreat.UFinest Go.Proofs.YtemhccjjcioodaaGreat.UFinEv
attribute [local go_sem] max2_int min2_int max_two min_two
set_option maxRecDepth 100000 in
set_option maxHeartbeats 1000000 in
theorem find_c {w : World} {base g N cap : Nat} {p : List Int} {r : Lab} (h : LI w base g N cap p) (hp : PF N r p) (hN : N ≤ 1000000) (i : Nat) (hi : i < N) :
 Calls Tryz.prog 253 #[.slice (some ⟨g, 0, none⟩) N cap, .int .i64 i] w fun e w' => ∃ p', e = .returned (.int .i64 (r i : Nat)) ∧ LI w' base g N cap p' ∧ PF N r p' ∧ w.grownBy w' (some g) := by
 have HV := Aside0.mk h
 have HP := Aside0.mk hp
 clear h hp
 go_enter Tryz.func253, Tryz.ntmps253
 go_wp2_with fail
 go_loopw [1] (fun v wr => ∃ (j : Nat) (p : List Int), v = .int .i64 j ∧ j < N ∧ Aside0 (r j = r i) ∧ Aside0 (LI wr base g N cap p) ∧ Aside0 (PF N r p) ∧ Aside0 (w.grownBy wr (some g))) (fun v _ => (intOf v).toNat)
 case atStart => exact ⟨i, p, rfl, hi, ⟨rfl⟩, HV, HP, ⟨World.grownBy.refl _ _⟩⟩
 case round =>
  clear HV HP
  obtain ⟨j, p, rfl, hj, HRR, HV, HP, HG⟩ := hrel
  have hjN : (j : Int) < (N : Int) := by omega
  by_cases hr : p.getD j 0 = (j : Int)
  ·obtain ⟨hc, hf⟩ := HV.out.cell j hj
   rw [hr] at hc
   have HRT := Aside0.mk (HP.out.root hj hr)
   clear hr
   go_wp2_with fail
   go_ret
   have hri : r i = j := HRR.out.symm.trans HRT.out
   exact ⟨p, by rw [hri]; rfl, HV.out, HP.out, HG.out⟩
  ·obtain ⟨q, hq, hlt, hqr⟩ := HP.out.up hj hr
   obtain ⟨q2, hq2, hle2, hqr2, _⟩ := HP.out q (by omega)
   obtain ⟨hc, hf⟩ := HV.out.cell j hj
   obtain ⟨hc2, hf2⟩ := HV.out.cell q (by omega)
   rw [hq] at hc
   rw [hq2] at hc2
   have HH := Aside0.mk (HP.out.half HV.out.len.symm hj hq hq2)
   have HP2 := Aside0.mk (HV.out.put j (q2 : Int))
   have HR2 := Aside0.mk (hqr2.trans hqr)
   have hne : ¬ (q : Int) = (j : Int) := by omega
   have hqN : (q : Int) < (N : Int) := by omega
   clear hr hq hq2 hqr hqr2 HV HP
   go_wp2_with fail
   exact ⟨⟨q2, _, rfl, by omega, ⟨HR2.out.trans HRR.out⟩, HP2, HH, ⟨World.grownBy.trans HG.out (grown_set _ _ _ _)⟩⟩, by simp [intOf]; omega⟩
theorem LI.grown {w w' : World} {base g n cap g' : Nat} {xs : List Int} (h : LI w base g n cap xs) (hg : w.grownBy w' (some g')) (hne : g ≠ g') : LI w' base g n cap xs :=
 Kd.R_grown h hg (fun k hk e => hne (by rw [← hk]; exact Option.some.inj e))
set_option maxRecDepth 100000 in
set_option maxHeartbeats 1000000 in
theorem join_c {w : World} {base g N cap : Nat} {p : List Int} {r : Lab} (h : LI w base g N cap p) (hp : PF N r p) (ho : LabOk N r) (hN : N ≤ 1000000) (a b : Nat) (ha : a < N) (hb : b < N) :
 Calls Tryz.prog 251 #[.slice (some ⟨g, 0, none⟩) N cap, .int .i64 a, .int .i64 b] w fun e w' => ∃ p', e = .returned (.bool (two r a b)) ∧ LI w' base g N cap p' ∧ PF N (merge r a b) p' ∧ w.grownBy w' (some g) := by
 have HV := Aside0.mk h
 have HP := Aside0.mk hp
 clear h hp
 have h1 := ho.le a ha
 have h2 := ho.le b hb
 have HO := Aside0.mk ho; clear ho
 go_enter Tryz.func251, Tryz.ntmps251
 by_cases hab : r a = r b
 ·have ht := Aside0.mk (two_false hab)
  have hm := Aside0.mk (merge_same r a b hab)
  have HAB := Aside0.mk hab; clear hab
  go_wp2_with (first | (go_at_call 253; refine (find_c HV.out HP.out hN a ha).mono ?_; rintro e w1 ⟨p1, rfl, a1, a2, a3⟩; have HV1 := Aside0.mk a1; have HP1 := Aside0.mk a2; have HG1 := Aside0.mk a3; clear a1 a2 a3 HV HP) | (go_at_call 253; refine (find_c HV1.out HP1.out hN b hb).mono ?_; rintro e w2 ⟨p2, rfl, a1, a2, a3⟩; rw [← HAB.out]; have HV2 := Aside0.mk a1; have HP2 := Aside0.mk a2; have HG2 : Aside0 (w.grownBy w2 (some g)) := ⟨World.grownBy.trans HG1.out a3⟩; clear a1 a2 a3 HV1 HP1))
  go_ret
  exact ⟨p2, by rw [ht.out]; rfl, HV2.out, by rw [hm.out]; exact HP2.out, HG2.out⟩
 ·have ht := Aside0.mk (two_true hab)
  have HAB := Aside0.mk hab
  obtain ⟨x, hx⟩ : ∃ x, x = r a := ⟨_, rfl⟩
  obtain ⟨y, hy⟩ : ∃ y, y = r b := ⟨_, rfl⟩
  have hxy : ¬ (x : Int) = (y : Int) := by omega
  have HX := Aside0.mk hx
  have HY := Aside0.mk hy
  have hxN : x < N := by omega
  have hyN : y < N := by omega
  clear hab hx hy
  go_upto_region 4 with (first | (go_at_call 253; refine (find_c HV.out HP.out hN a ha).mono ?_; rintro e w1 ⟨p1, rfl, a1, a2, a3⟩; rw [← HX.out]; have HV1 := Aside0.mk a1; have HP1 := Aside0.mk a2; have HG1 := Aside0.mk a3; clear a1 a2 a3 HV HP) | (go_at_call 253; refine (find_c HV1.out HP1.out hN b hb).mono ?_; rintro e w2 ⟨p2, rfl, a1, a2, a3⟩; rw [← HY.out]; have HV2 := Aside0.mk a1; have HP2 := Aside0.mk a2; have HG2 : Aside0 (w.grownBy w2 (some g)) := ⟨World.grownBy.trans HG1.out a3⟩; clear a1 a2 a3 HV1 HP1))
  by_cases hlt : (x : Int) < (y : Int)
  ·have hc0 := HV2.out.cell y hyN
   obtain ⟨hc, hf⟩ := hc0
   have HP3 := Aside0.mk (HV2.out.put y (x : Int))
   have HQ3 : Aside0 (PF N (merge r a b) (p2.set y (x : Int))) := ⟨by
    have h := HP2.out.join HO.out HV2.out.len.symm a b ha hb HAB.out
    rw [← HX.out, ← HY.out, show max x y = y by omega, show min x y = x by omega] at h
    exact h⟩
   have hI : (y : Int) < (N : Int) := by omega
   have hJ : ¬ (y : Int) < (x : Int) := by omega
   clear HV2 HP2
   go_wp2_with fail
   go_ret
   exact ⟨by rw [ht.out]; rfl, _, HP3.out, HQ3.out, World.grownBy.trans HG2.out (grown_set _ _ _ _)⟩
  ·have hlt2 : (y : Int) < (x : Int) := by omega
   have hc0 := HV2.out.cell x hxN
   obtain ⟨hc, hf⟩ := hc0
   have HP3 := Aside0.mk (HV2.out.put x (y : Int))
   have HQ3 : Aside0 (PF N (merge r a b) (p2.set x (y : Int))) := ⟨by
    have h := HP2.out.join HO.out HV2.out.len.symm a b ha hb HAB.out
    rw [← HX.out, ← HY.out, show max x y = x by omega, show min x y = y by omega] at h
    exact h⟩
   have hI : (x : Int) < (N : Int) := by omega
   have hJ : ¬ (x : Int) < (y : Int) := by omega
   clear HV2 HP2
   go_wp2_with fail
   go_ret
   exact ⟨by rw [ht.out]; rfl, _, HP3.out, HQ3.out, World.grownBy.trans HG2.out (grown_set _ _ _ _)⟩
end Go.Proofs.YtemhccjjcioodaaGreat.CFin
namespace Go.Proofs.YtemhccjjcioodaaGreat.CFin
open Go.RowKit Go.Proofs.YtemhccjjcioodaaGreatW.PrintWords Go.Proofs.YtemhccjjcioodaaGreatW.PrintMore Go.Proofs.YtemhccjjcioodaaGreatW.PrintLast Go.Proofs.YtemhccjjcioodaaGreat.U Go.Proofs.YtemhccjjcioodaaGreat.PClusterFinest Go.Proofs.YtemhccjjcioodaaGreat.UFinest Go.Proofs.YtemhccjjcioodaaGreat.UFinEv
theorem labOk_allF {N : Nat} {r : Lab} (h : LabOk N r) (base k : Nat) (hb : base + k < N) : LabOk N (allF r base k) := by
 induction k with
 | zero => exact h
 | succ k ih => exact (ih (by omega)).merge _ _ (by omega) (by omega)
def WV (w : World) (B g n m N cap : Nat) : Prop := w.heap[B]? = some (.cells #[.slice (some ⟨g, 0, none⟩) N cap, .int .i64 n, .int .i64 m] 217 (0, 0))
theorem WV.below {w w' : World} {B g n m N cap : Nat} (h : WV w B g n m N cap) (hb : Below w.heap.size w w') : WV w' B g n m N cap := (hb.block _ (blk_lt h)).trans h
theorem WV.grown {w w' : World} {B g g' n m N cap : Nat} (h : WV w B g n m N cap) (hg : w.grownBy w' (some g')) (hne : B ≠ g') : WV w' B g n m N cap := (hg.block _ (blk_lt h) (fun e => hne (Option.some.inj e))).trans h
theorem WV.c0 {w : World} {B g n m N cap : Nat} (h : WV w B g n m N cap) : w.cell? ⟨B, 0, none⟩ = some (.slice (some ⟨g, 0, none⟩) N cap) := (blk_cell h 0).trans rfl
theorem WV.c1 {w : World} {B g n m N cap : Nat} (h : WV w B g n m N cap) : w.cell? ⟨B, 1, none⟩ = some (.int .i64 n) := (blk_cell h 1).trans rfl
theorem WV.c2 {w : World} {B g n m N cap : Nat} (h : WV w B g n m N cap) : w.cell? ⟨B, 2, none⟩ = some (.int .i64 m) := (blk_cell h 2).trans rfl
theorem below_grownBy {w w' : World} (h : Below w.heap.size w w') (row : Option Nat) : w.grownBy w' row := ⟨h.os, h.tape, h.output, h.size, fun k hk _ => h.block k hk⟩
set_option maxRecDepth 100000 in
set_option maxHeartbeats 1000000 in
theorem all_c {w : World} {base B g n m N cap : Nat} {p : List Int} {r : Lab} (hW : WV w B g n m N cap) (h : LI w base g N cap p) (hne : B ≠ g) (hp : PF N r p) (ho : LabOk N r) (hN : N ≤ 1000000) (lo hi by_ : Nat) (hlh : lo < hi) (hh : by_ + hi ≤ N) :
 Calls Tryz.prog 250 #[.pointer (some ⟨B, 0, none⟩), .agg #[.int .i64 lo, .int .i64 hi], .int .i64 by_] w fun e w' => e = .returned (.tuple #[]) ∧ ∃ p', LI w' base g N cap p' ∧ PF N (allF r (by_ + lo) (hi - lo - 1)) p' ∧ w.grownBy w' (some g) := by
 have HW := Aside0.mk hW
 have HV := Aside0.mk h
 have HP := Aside0.mk hp
 have HO := Aside0.mk ho
 have hgw := h.ltw
 have e1 : IntKind.i64.wrap ((lo : Int) + 1) = ((lo + 1 : Nat) : Int) := by rw [IntWalk.i64_in _ (by omega)]; omega
 clear hW h hp ho
 go_enter Tryz.func250, Tryz.ntmps250
 go_wp2_with (first | ((with_reducible refine gate_dst (N := 4) rfl ?_); refine box_event ?hg (N := 4) ?hd (cs := #[.int .i64 lo, .int .i64 hi]) (t := 34) ?hr ?_; (case hd => rfl); (case hg => rfl); (case hr => first | (go_simp; done) | (go_simp; rfl)); intro gb hg w5 hbox hb; have HW5 := Aside0.mk (HW.out.below hb); have HV5 := Aside0.mk (HV.out.below hb); have HX := Aside0.mk hbox; have HGB := Aside0.mk hg; have HG5 := Aside0.mk (below_grownBy hb (some g)); have b0 : w5.cell? ⟨gb, 0, none⟩ = some (.int .i64 lo) := (blk_cell hbox 0).trans rfl; have b1 : w5.cell? ⟨gb, 1, none⟩ = some (.int .i64 hi) := (blk_cell hbox 1).trans rfl; clear hg hbox hb HW HV))
 clear b0 b1
 have HGN : Aside0 (gb ≠ g) := ⟨by have := HGB.out; omega⟩
 go_loopw [6] (fun v wr => ∃ (j : Nat) (p : List Int), v = .int .i64 j ∧ lo + 1 ≤ j ∧ j ≤ hi ∧ Aside0 (WV wr B g n m N cap) ∧ Aside0 (LI wr base g N cap p) ∧ Aside0 (PF N (allF r (by_ + lo) (j - lo - 1)) p) ∧ Aside0 (wr.heap[gb]? = some (.cells #[.int .i64 lo, .int .i64 hi] 34 (0, 0))) ∧ Aside0 (w.grownBy wr (some g))) (fun v _ => hi - (intOf v).toNat)
 case atStart => exact ⟨lo + 1, p, rfl, Nat.le_refl _, hlh, HW5, HV5, ⟨by rw [show lo + 1 - lo - 1 = 0 by omega]; exact HP.out⟩, HX, HG5⟩
 case round =>
  clear HW5 HV5 HP HX HG5
  obtain ⟨j, p, rfl, hj1, hj2, HW, HV, HP, HX, HG⟩ := hrel
  have b0 := (blk_cell HX.out 0).trans rfl
  have b1 := (blk_cell HX.out 1).trans rfl
  have d0 := HW.out.c0
  by_cases hlt : j < hi
  ·have hjI : (j : Int) < (hi : Int) := by omega
   obtain ⟨a, ha⟩ : ∃ a, a = by_ + lo := ⟨_, rfl⟩
   obtain ⟨b, hb⟩ : ∃ b, b = by_ + j := ⟨_, rfl⟩
   have e2 : IntKind.i64.wrap ((by_ : Int) + (lo : Int)) = (a : Int) := by rw [IntWalk.i64_in _ (by omega)]; omega
   have e3 : IntKind.i64.wrap ((by_ : Int) + (j : Int)) = (b : Int) := by rw [IntWalk.i64_in _ (by omega)]; omega
   have haN : a < N := by omega
   have hbN : b < N := by omega
   have HA := Aside0.mk ha
   have HB := Aside0.mk hb
   clear ha hb
   go_wp2_with fail
   go_still_tail 11, (by kernel_rfl)
   repeat still_step
   have HWd : Aside0 (WV wr.drew B g n m N cap) := ⟨HW.out⟩
   have HVd : Aside0 (LI wr.drew base g N cap p) := ⟨Kd.R_drew HV.out⟩
   go_wp2_with (go_at_call 251; refine (join_c HVd.out HP.out (labOk_allF HO.out _ _ (by omega)) hN a b haN hbN).mono ?_; rintro e w6 ⟨p1, rfl, a1, a2, a3⟩; have HV6 := Aside0.mk a1; have HP6 : Aside0 (PF N (allF r (by_ + lo) (j + 1 - lo - 1)) p1) := ⟨by rw [HA.out, HB.out] at a2; rw [show j + 1 - lo - 1 = (j - lo - 1) + 1 by omega]; have e : by_ + lo + (j - lo - 1) + 1 = by_ + j := (by omega); show PF N (merge (allF r (by_ + lo) (j - lo - 1)) (by_ + lo) (by_ + lo + (j - lo - 1) + 1)) p1; rw [e]; exact a2⟩; have HG6 := Aside0.mk a3; clear a1 a2 a3)
   have HGd : Aside0 (wr.grownBy w6 (some g)) := ⟨World.grownBy.trans (below_grownBy (below_drew (Below.refl _ _)) _) HG6.out⟩
   exact ⟨⟨j + 1, p1, by go_num, by omega, by omega, ⟨HW.out.grown HGd.out hne⟩, HV6, HP6, ⟨(HGd.out.block _ (blk_lt HX.out) (fun e => HGN.out (Option.some.inj e))).trans HX.out⟩, ⟨World.grownBy.trans HG.out HGd.out⟩⟩, by simp [intOf]; omega⟩
  ·have ej : j = hi := by omega
   subst ej
   go_wp2_with fail
   go_end0
   exact ⟨rfl, p, HV.out, HP.out, HG.out⟩
end Go.Proofs.YtemhccjjcioodaaGreat.CFin
namespace Go.Proofs.YtemhccjjcioodaaGreat.CFin
open Go.RowKit Go.Proofs.YtemhccjjcioodaaGreatW.PrintWords Go.Proofs.YtemhccjjcioodaaGreatW.PrintMore Go.Proofs.YtemhccjjcioodaaGreatW.PrintLast Go.Proofs.YtemhccjjcioodaaGreat.U Go.Proofs.YtemhccjjcioodaaGreat.PClusterFinest Go.Proofs.YtemhccjjcioodaaGreat.UFinest Go.Proofs.YtemhccjjcioodaaGreat.UFinEv
set_option maxRecDepth 100000 in
set_option maxHeartbeats 1000000 in
theorem link_c {w : World} {base B g n m N cap : Nat} {p : List Int} {r : Lab} (hW : WV w B g n m N cap) (h : LI w base g N cap p) (hne : B ≠ g) (hp : PF N r p) (ho : LabOk N r) (hN : N ≤ 1000000) (x : Lk) (hab : x.a < x.b) (hbn : x.b ≤ n) (hcd : x.c < x.d) (hdm : x.d ≤ m) (hnm : n + m = N) :
 Calls Tryz.prog 190 #[.pointer (some ⟨B, 0, none⟩), .agg #[.int .i64 x.a, .int .i64 x.b, .int .i64 x.c, .int .i64 x.d]] w fun e w' => e = .returned (.tuple #[]) ∧ ∃ p', LI w' base g N cap p' ∧ PF N (linkF n r x) p' ∧ w.grownBy w' (some g) := by
 have HW := Aside0.mk hW
 have HV := Aside0.mk h
 have HP := Aside0.mk hp
 have HO := Aside0.mk ho
 have hgw := h.ltw
 obtain ⟨a, b, c, d⟩ := x
 dsimp only at hab hbn hcd hdm
 have HO1 := Aside0.mk (labOk_allF ho a (b - a - 1) (by omega))
 have HO2 := Aside0.mk (labOk_allF HO1.out (n + c) (d - c - 1) (by omega))
 clear hW h hp ho
 dsimp only
 go_enter Tryz.func190, Tryz.ntmps190
 go_wp2_with (first | ((with_reducible refine gate_dst (N := 3) rfl ?_); refine box_event ?hg (N := 3) ?hd (cs := #[.int .i64 a, .int .i64 b, .int .i64 c, .int .i64 d]) (t := 36) ?hr ?_; (case hd => rfl); (case hg => rfl); (case hr => first | (go_simp; done) | (go_simp; rfl)); intro gb hg w5 hbox hb; have HW5 := Aside0.mk (HW.out.below hb); have HV5 := Aside0.mk (HV.out.below hb); have HX := Aside0.mk hbox; have HGB := Aside0.mk hg; have HG5 := Aside0.mk (below_grownBy hb (some g)); have b0 : w5.cell? ⟨gb, 0, none⟩ = some (.int .i64 a) := (blk_cell hbox 0).trans rfl; have b1 : w5.cell? ⟨gb, 1, none⟩ = some (.int .i64 b) := (blk_cell hbox 1).trans rfl; clear hg hbox hb HW HV) | (go_at_call 250; refine (all_c (lo := a) (hi := b) (by_ := 0) HW5.out HV5.out hne HP.out HO.out hN hab (by omega)).mono ?_; rintro e w6 ⟨rfl, p1, a1, a2, a3⟩; have HV6 := Aside0.mk a1; have HP6 : Aside0 (PF N (allF r a (b - a - 1)) p1) := ⟨by rw [Nat.zero_add] at a2; exact a2⟩; have HW6 := Aside0.mk (HW5.out.grown a3 hne); have HX6 : Aside0 (w6.heap[gb]? = _) := ⟨(a3.block _ (blk_lt HX.out) (fun e => by have := HGB.out; have := Option.some.inj e; omega)).trans HX.out⟩; have HG6 : Aside0 (w.grownBy w6 (some g)) := ⟨World.grownBy.trans HG5.out a3⟩; clear a1 a2 a3 HW5 HV5 HX HG5 HP b0 b1))
 have q2 : w6.cell? ⟨gb, 2, none⟩ = some (.int .i64 c) := (blk_cell HX6.out 2).trans rfl
 have q3 : w6.cell? ⟨gb, 3, none⟩ = some (.int .i64 d) := (blk_cell HX6.out 3).trans rfl
 have d1 := HW6.out.c1
 go_still_tail 7, (by kernel_rfl)
 repeat still_step
 have HWd : Aside0 (WV w6.drew B g n m N cap) := ⟨HW6.out⟩
 have HVd : Aside0 (LI w6.drew base g N cap p1) := ⟨Kd.R_drew HV6.out⟩
 clear q2 q3 d1
 go_wp2_with (go_at_call 250; refine (all_c (lo := c) (hi := d) (by_ := n) HWd.out HVd.out hne HP6.out HO1.out hN hcd (by omega)).mono ?_; rintro e w7 ⟨rfl, p2, a1, a2, a3⟩; have HV7 := Aside0.mk a1; have HP7 := Aside0.mk a2; have HW7 := Aside0.mk (HWd.out.grown a3 hne); have hgd : w6.grownBy w7 (some g) := World.grownBy.trans (below_grownBy (below_drew (Below.refl _ _)) _) a3; have HX7 : Aside0 (w7.heap[gb]? = _) := ⟨(hgd.block _ (blk_lt HX6.out) (fun e => by have := HGB.out; have := Option.some.inj e; omega)).trans HX6.out⟩; have HG7 : Aside0 (w.grownBy w7 (some g)) := ⟨World.grownBy.trans HG6.out hgd⟩; clear a1 a2 a3 hgd HWd HVd HW6 HV6 HX6 HG6 HP6)
 have q0 : w7.cell? ⟨gb, 0, none⟩ = some (.int .i64 a) := (blk_cell HX7.out 0).trans rfl
 have q2 : w7.cell? ⟨gb, 2, none⟩ = some (.int .i64 c) := (blk_cell HX7.out 2).trans rfl
 have d0 := HW7.out.c0
 have d1 := HW7.out.c1
 obtain ⟨k, hk⟩ : ∃ k, k = n + c := ⟨_, rfl⟩
 have e2 : IntKind.i64.wrap ((n : Int) + (c : Int)) = (k : Int) := by rw [IntWalk.i64_in _ (by omega)]; omega
 have hkN : k < N := by omega
 have haN : a < N := by omega
 have HK := Aside0.mk hk; clear hk
 go_still_tail 15, (by kernel_rfl)
 repeat still_step
 have HVd : Aside0 (LI w7.drew base g N cap p2) := ⟨Kd.R_drew HV7.out⟩
 clear q0 q2 d0 d1
 go_wp2_with (go_at_call 251; refine (join_c HVd.out HP7.out HO2.out hN a k haN hkN).mono ?_; rintro e w8 ⟨p3, rfl, a1, a2, a3⟩; have HV8 := Aside0.mk a1; have HP8 : Aside0 (PF N (linkF n r ⟨a, b, c, d⟩) p3) := ⟨by rw [HK.out] at a2; exact a2⟩; have HG8 : Aside0 (w.grownBy w8 (some g)) := ⟨World.grownBy.trans HG7.out (World.grownBy.trans (below_grownBy (below_drew (Below.refl _ _)) _) a3)⟩; clear a1 a2 a3)
 go_end0
 exact ⟨rfl, p3, HV8.out, HP8.out, HG8.out⟩
end Go.Proofs.YtemhccjjcioodaaGreat.CFin
namespace Go.Proofs.YtemhccjjcioodaaGreat.CFin
open Go.RowKit Go.Proofs.YtemhccjjcioodaaGreatW.PrintWords Go.Proofs.YtemhccjjcioodaaGreatW.PrintMore Go.Proofs.YtemhccjjcioodaaGreatW.PrintLast Go.Proofs.YtemhccjjcioodaaGreat.U Go.Proofs.YtemhccjjcioodaaGreat.PClusterFinest Go.Proofs.YtemhccjjcioodaaGreat.UFinest Go.Proofs.YtemhccjjcioodaaGreat.UFinEv
set_option maxRecDepth 100000 in
set_option maxHeartbeats 1000000 in
theorem alone_c {w : World} (n : Nat) (hn : n ≤ 1000000) :
 Calls Tryz.prog 189 #[.int .i64 n] w fun e w' => ∃ (g cap : Nat) (p : List Int), e = .returned (.slice (some ⟨g, 0, none⟩) n cap) ∧ LI w' w.heap.size g n cap p ∧ PF n idL p ∧ Below w.heap.size w w' := by
 go_enter Tryz.func189, Tryz.ntmps189
 go_wp2_with (first | ((with_reducible refine gate_dst (N := 6) rfl ?_); refine Kd.R_make (Kd.int .i64) (w0 := w) w.heap.size 3 rfl (N := 6) rfl 214 _ _ rfl n rfl rfl Tryz.underlying214 (.int .i64 0) 8 info3 rfl (by decide) (by omega) 0 (ok := fun _ => True) (okp := fun _ => True) rfl (fun _ hk => hk) trivial (by omega) (by omega) (Below.refl _ _) (Nat.le_refl _) ?_; intro v w1 hv hb hg hnew; obtain ⟨g, cap, ev, hgo⟩ := R_form hv (hnew.imp fun _ h => h.1); subst ev; rw [List.length_replicate, Int.toNat_natCast] at hv ⊢; have HV := Aside0.mk (LI.of_R hv); have HB := Aside0.mk hb; clear hv hb hg hnew hgo))
 go_loopw [9] (fun v wr => ∃ (k : Nat) (xs : List Int), v = .int .i64 k ∧ k ≤ n ∧ Aside0 (xs.length = n) ∧ Aside0 (Upto 0 k xs) ∧ Aside0 (LI wr w.heap.size g n cap xs) ∧ Aside0 (Below w.heap.size w wr)) (fun v _ => n - (intOf v).toNat)
 case atStart => exact ⟨0, List.replicate n 0, rfl, Nat.zero_le _, ⟨List.length_replicate ..⟩, ⟨fun i hi => absurd hi (Nat.not_lt_zero i)⟩, HV, HB⟩
 case round =>
  clear HV HB
  obtain ⟨k, xs, rfl, hk, HXL, HUP, HV, HB⟩ := hrel
  by_cases hlt : k < n
  ·obtain ⟨hy, hz⟩ := HV.out.cell k hlt
   have HP := Aside0.mk (HV.out.put k (k : Int))
   have HU : Aside0 (Upto 0 (k + 1) (xs.set k (k : Int))) := ⟨by have := HUP.out.set (by rw [HXL.out]; exact hlt); rwa [Nat.zero_add] at this⟩
   have HXL2 : Aside0 ((xs.set k (k : Int)).length = n) := ⟨by rw [List.length_set]; exact HXL.out⟩
   have HGE := Aside0.mk HV.out.lt
   clear HV HUP
   have hkI : (k : Int) < (n : Int) := by omega
   go_wp2_with fail
   exact ⟨⟨k + 1, _, by go_num, by omega, HXL2, HU, HP, ⟨HB.out.setCell (p := ⟨g, k, none⟩) HGE.out _⟩⟩, by simp [intOf]; omega⟩
  ·have ek : k = n := by omega
   subst ek
   go_wp2_with fail
   go_ret
   exact ⟨g, cap, xs, rfl, HV.out, PF.id (fun i hi => by have := HUP.out i hi; rwa [Nat.zero_add] at this), HB.out⟩
end Go.Proofs.YtemhccjjcioodaaGreat.CFin
namespace Go.Proofs.YtemhccjjcioodaaGreat.CFin
open Go.RowKit Go.Proofs.YtemhccjjcioodaaGreatW.PrintWords Go.Proofs.YtemhccjjcioodaaGreatW.PrintMore Go.Proofs.YtemhccjjcioodaaGreatW.PrintLast Go.Proofs.YtemhccjjcioodaaGreat.U Go.Proofs.YtemhccjjcioodaaGreat.PClusterFinest Go.Proofs.YtemhccjjcioodaaGreat.UFinest Go.Proofs.YtemhccjjcioodaaGreat.UFinEv
theorem index_loop (P : Nat → Bool) (b : List Bool) (hb : RepB P b) (hl : b.length ≤ 1000000) (d : Nat) : ∀ i : Nat, i + d = b.length → (∀ j, j < i → P j = false) → (List.range b.length).findIdx P < b.length →
 Ev (fun k => slices_Index_bool_bool.l0 k b true (b.length : Int) (i : Int)) (((List.range b.length).findIdx P : Nat) : Int) := by
 induction d with
 | zero =>
  intro i hd hf hlt
  exfalso
  have h := List.findIdx_getElem (xs := List.range b.length) (p := P) (w := by simpa using hlt)
  rw [List.getElem_range] at h
  rw [hf _ (by omega)] at h
  cases h
 | succ d ih =>
  intro i hd hf hfl
  have hlt : i < b.length := by omega
  refine Ev.step (fun k => by rw [slices_Index_bool_bool.l0]) (ev_pos (by omega) (ev_pos (by omega) (ev_pos (by omega) ?_)))
  rw [rdB, hb i hlt]
  by_cases hp : P i = true
  ·have hfi : (List.range b.length).findIdx P = i := by
    rw [List.findIdx_eq (by simpa using hlt)]
    refine ⟨by simpa using hp, fun j hj => ?_⟩
    simp [hf j hj]
   rw [hfi]
   exact ev_pos (by rw [hp]; rfl) (ev_now _)
  ·have hpf : P i = false := by simpa using hp
   refine ev_neg (by rw [hpf]; decide) ?_
   rw [w64 (by omega) (by omega), show (i : Int) + 1 = ((i + 1 : Nat) : Int) by omega]
   exact ih (i + 1) (by omega) (fun j hj => by
    by_cases hji : j = i
    ·subst hji; exact hpf
    ·exact hf j (by omega)) hfl
theorem index_c (n : Nat) {w : World} {base g cap : Nat} {L : List Lk} {b : List Bool} (h : LB w base g n cap b) (hl : b.length = n) (hn : n ≤ 1000000) (hb : RepB (linkedB L) b) (hf : firstF L n < n) :
 Calls Tryz.prog 252 #[.slice (some ⟨g, 0, none⟩) n cap, .bool true] w fun e w' => e = .returned (.int .i64 (firstF L n : Nat)) ∧ Drawn0 w w' := by
 obtain ⟨_, hc, hC⟩ := Kd.R_reads' h
 subst hl
 have he : Ev (fun k => slices_Index_bool_bool.f k b true) ((firstF L b.length : Nat) : Int) := index_loop (linkedB L) b hb hn b.length 0 (by omega) (fun j h => absurd h (Nat.not_lt_zero j)) hf
 obtain ⟨k, hk⟩ := ev_some he
 exact slices_Index_bool_bool.calls k _ cap b true _ w hC hc hk
end Go.Proofs.YtemhccjjcioodaaGreat.CFin
namespace Go.Proofs.YtemhccjjcioodaaGreat.CFin
open Go.RowKit Go.Proofs.YtemhccjjcioodaaGreatW.PrintWords Go.Proofs.YtemhccjjcioodaaGreatW.PrintMore Go.Proofs.YtemhccjjcioodaaGreatW.PrintLast Go.Proofs.YtemhccjjcioodaaGreat.U Go.Proofs.YtemhccjjcioodaaGreat.PClusterFinest Go.Proofs.YtemhccjjcioodaaGreat.UFinest Go.Proofs.YtemhccjjcioodaaGreat.UFinEv
theorem drawn0_below {w w' : World} (h : Drawn0 w w') : Below w.heap.size w w' := by
 obtain ⟨q, rfl⟩ := h
 exact pw_below_drewN (Below.refl _ _) q
theorem LB.put {w : World} {base g n cap : Nat} {xs : List Bool} (h : LB w base g n cap xs) (i : Nat) (x : Bool) : LB (w.setCell ⟨g, i, none⟩ (.bool x)) base g n cap (xs.set i x) := by
 have := (Kd.R_putg h (i : Int) x).1
 rwa [Int.toNat_natCast] at this
theorem LB.fro {w : World} {base g n cap : Nat} {xs : List Bool} (h : LB w base g n cap xs) (i : Nat) (hi : i < n) : w.frozen? ⟨g, i, none⟩ = false := by
 have := (Kd.R_celln false h (i : Int) (by omega) (by omega)).2
 rwa [Int.toNat_natCast] at this
theorem LB.other {w : World} {base g n cap : Nat} {xs : List Bool} (h : LB w base g n cap xs) {g' : Nat} (hg : g ≠ g') (i : Nat) (v : Value) : LB (w.setCell ⟨g', i, none⟩ v) base g n cap xs :=
 Kd.R_grown h (grown_set w g' i v) (fun k hk e => hg (by rw [← hk]; exact Option.some.inj e))
theorem LB.len {w : World} {base g n cap : Nat} {xs : List Bool} (h : LB w base g n cap xs) : n = xs.length := (Kd.R_reads' h).1
theorem LB.lt {w : World} {base g n cap : Nat} {xs : List Bool} (h : LB w base g n cap xs) : base ≤ g := by
 obtain ⟨_, h2, _, _⟩ := (Kd.R_bound h).1 g rfl
 exact h2
set_option maxRecDepth 100000 in
set_option maxHeartbeats 1000000 in
theorem stray_c {w : World} {base B g n m N cap c : Nat} {A : Option Addr} {p : List Int} {r : Lab} {l : List S45} (hW : WV w B g n m N cap) (h : LI w base g N cap p) (hne : B ≠ g) (hp : PF N r p) (ho : LabOk N r) (hN : N ≤ 100000) (hnm : n + m = N) (hm : 0 < m)
 (hC : Kd.C k45 w A l.length l) (hl : l.length ≤ 5000) (hlk : ∀ x ∈ l, LinkOk n m x) (hf : firstF (l.map lkOf) n < n) :
 Calls Tryz.prog 191 #[.pointer (some ⟨B, 0, none⟩), .slice A l.length c] w fun e w' => e = .returned (.tuple #[]) ∧ ∃ p', LI w' base g N cap p' ∧ PF N (strayF (l.map lkOf) n r n) p' ∧ w.grownBy w' (some g) := by
 have HW := Aside0.mk hW
 have HV := Aside0.mk h
 have HP := Aside0.mk hp
 have HO := Aside0.mk ho
 have HC := Aside0.mk hC
 have HLK := Aside0.mk hlk
 have HF := Aside0.mk hf
 have hgw := h.ltw
 have d1 := hW.c1
 clear hW h hp ho hC hlk hf
 go_enter Tryz.func191, Tryz.ntmps191
 go_wp2_with (first | ((with_reducible refine gate_dst (N := 14) rfl ?_); refine Kd.R_make Kd.bool (w0 := w) w.heap.size 4 rfl (N := 14) rfl 41 _ _ rfl n rfl rfl Tryz.underlying41 (.bool false) 1 info4 rfl (by decide) (by omega) false (ok := fun _ => True) (okp := fun _ => True) rfl (fun _ hk => hk) trivial (by omega) (by omega) (Below.refl _ _) (Nat.le_refl _) ?_; intro v w1 hv hb hg hnew; obtain ⟨gl, capl, ev, hgo⟩ := R_form hv (hnew.imp fun _ h => h.1); subst ev; rw [List.length_replicate, Int.toNat_natCast] at hv ⊢; have HB0 := Aside0.mk (LB.of_R hv); have HB := Aside0.mk hb; clear hv hb hg hnew hgo d1))
 go_loopw [17] (fun v wr => ∃ (k : Nat) (bs : List Bool), v = .int .i64 k ∧ k ≤ l.length ∧ Aside0 (RepB (linkedB ((l.take k).map lkOf)) bs) ∧ Aside0 (LB wr w.heap.size gl n capl bs) ∧ Aside0 (Below w.heap.size w wr)) (fun v _ => l.length - (intOf v).toNat)
 case atStart => exact ⟨0, List.replicate n false, rfl, Nat.zero_le _, ⟨fun i hi => by simp at hi; simp [linkedB, List.getD_eq_getElem?_getD, List.getElem?_replicate, hi]⟩, HB0, HB⟩
 case round =>
  clear HB0 HB
  obtain ⟨k, bs, rfl, hk, HR, HB0, HB⟩ := hrel
  by_cases hlt : k < l.length
  ·have hx := HLK.out _ (List.getElem_mem hlt)
   obtain ⟨ad, ead, c0, c1, c2, c3⟩ := at_T45 (Kd.C_below HC.out HB.out) (k : Int) (by omega) (by omega)
   rw [rd45 hlt, Int.toNat_natCast] at c0 c1 c2 c3
   have ha0 := hx.a0; have hab := hx.ab; have hbn := hx.bn
   obtain ⟨lo, hlo⟩ : ∃ lo : Nat, l[k].f0.f0 = (lo : Int) := ⟨l[k].f0.f0.toNat, by omega⟩
   obtain ⟨hi, hhi⟩ : ∃ hi : Nat, l[k].f0.f1 = (hi : Int) := ⟨l[k].f0.f1.toNat, by omega⟩
   rw [hlo] at c0
   rw [hhi] at c1
   generalize hx3 : l[k].f1.f0 = x3 at c2
   generalize hx4 : l[k].f1.f1 = x4 at c3
   have HLO := Aside0.mk hlo
   have HHI := Aside0.mk hhi
   have hlh : lo < hi := by omega
   have hhn : hi ≤ n := by omega
   have HEA := Aside0.mk ead
   subst ead
   clear hx ha0 hab hbn hlo hhi hx3 hx4
   have hkI : (k : Int) < (l.length : Int) := by omega
   go_wp2_with (first | ((with_reducible refine gate_dst (N := 6) rfl ?_); refine box_event ?hg (N := 6) ?hd (cs := #[.int .i64 0, .int .i64 0, .int .i64 0, .int .i64 0]) (t := 36) ?hr ?_; (case hd => rfl); (case hg => rfl); (case hr => first | (go_simp; done) | (go_simp; rfl)); intro gb hg w6 hbox hb; have HX6 := Aside0.mk hbox; have HGB := Aside0.mk hg; have HGW := Aside0.mk HB0.out.ltw; have HGX : Aside0 (w.heap.size ≤ gb) := ⟨by rw [hg]; exact HB.out.size⟩; have HB6 : Aside0 (Below w.heap.size w w6) := ⟨below_step HB.out hb⟩; have HB06 := Aside0.mk (HB0.out.below hb); have z0 : w6.cell? ⟨gb, 0, none⟩ = some (.int .i64 0) := (blk_cell hbox 0).trans rfl; have z1 : w6.cell? ⟨gb, 1, none⟩ = some (.int .i64 0) := (blk_cell hbox 1).trans rfl; have z2 : w6.cell? ⟨gb, 2, none⟩ = some (.int .i64 0) := (blk_cell hbox 2).trans rfl; have z3 : w6.cell? ⟨gb, 3, none⟩ = some (.int .i64 0) := (blk_cell hbox 3).trans rfl; have f0 := blk_frozen hbox 0; have f1 := blk_frozen hbox 1; have f2 := blk_frozen hbox 2; have f3 := blk_frozen hbox 3; clear hg hbox hb HB HB0))
   have hgl := HB06.out.ltw
   have HNG : Aside0 (gl ≠ gb) := ⟨by have h1 := HGB.out; have h2 := HGW.out; omega⟩
   have HGE : Aside0 (w.heap.size ≤ gb) := ⟨HGX.out⟩
   have HX := Aside0.mk (blk_put (blk_put (blk_put (blk_put HX6.out 0 (.int .i64 lo) rfl) 1 (.int .i64 hi) rfl) 2 (.int .i64 x3) rfl) 3 (.int .i64 x4) rfl)
   have HB7 := Aside0.mk ((((HB6.out.setCell (p := ⟨gb, 0, none⟩) HGE.out (.int .i64 lo)).setCell (p := ⟨gb, 1, none⟩) HGE.out (.int .i64 hi)).setCell (p := ⟨gb, 2, none⟩) HGE.out (.int .i64 x3)).setCell (p := ⟨gb, 3, none⟩) HGE.out (.int .i64 x4))
   have HB07 := Aside0.mk ((((HB06.out.other HNG.out 0 (.int .i64 lo)).other HNG.out 1 (.int .i64 hi)).other HNG.out 2 (.int .i64 x3)).other HNG.out 3 (.int .i64 x4))
   clear z0 z1 z2 z3 f0 f1 f2 f3 HX6 HB6 HB06 hgl c0 c1 c2 c3
   go_loopw [7] (fun v wr => ∃ (t : Nat) (bs : List Bool), v = .int .i64 t ∧ lo ≤ t ∧ t ≤ hi ∧ Aside0 (RepB (fun q => linkedB ((l.take k).map lkOf) q || (decide (lo ≤ q) && decide (q < t))) bs) ∧ Aside0 (LB wr w.heap.size gl n capl bs) ∧ Aside0 (wr.heap[gb]? = some (.cells #[.int .i64 lo, .int .i64 hi, .int .i64 x3, .int .i64 x4] 36 (0, 0))) ∧ Aside0 (Below w.heap.size w wr)) (fun v _ => hi - (intOf v).toNat)
   case atStart => exact ⟨lo, bs, rfl, Nat.le_refl _, by omega, ⟨fun q hq => by rw [HR.out q hq]; have : (decide (lo ≤ q) && decide (q < lo)) = false := (by simp <;> omega); dsimp only; rw [this, Bool.or_false]⟩, HB07, HX, HB7⟩
   case round =>
    clear HB07 HX HB7 HR
    obtain ⟨t, bs, rfl, ht1, ht2, HR, HB0, HX, HB⟩ := hrel
    have b1 : wr.cell? ⟨gb, 1, none⟩ = some (.int .i64 hi) := (blk_cell HX.out 1).trans rfl
    by_cases hlt2 : t < hi
    ·have hcl := HB0.out.cell t (by omega)
     have hfr := HB0.out.fro t (by omega)
     have HP2 := Aside0.mk (HB0.out.put t true)
     have HR2 : Aside0 (RepB (fun q => linkedB ((l.take k).map lkOf) q || (decide (lo ≤ q) && decide (q < t + 1))) (bs.set t true)) := ⟨by
      intro q hq
      rw [repB_set HR.out t (by rw [← HB0.out.len]; omega) q hq]
      dsimp only
      by_cases e : q = t
      ·subst e; simp; omega
      ·have e1 : decide (q = t) = false := decide_eq_false e
       have e2 : decide (q < t + 1) = decide (q < t) := by rw [decide_eq_decide]; omega
       rw [e1, e2, Bool.or_false]⟩
     have HX2 : Aside0 ((wr.setCell ⟨gl, t, none⟩ (.bool true)).heap[gb]? = some (.cells #[.int .i64 lo, .int .i64 hi, .int .i64 x3, .int .i64 x4] 36 (0, 0))) := ⟨((grown_set wr gl t (.bool true)).block _ (blk_lt HX.out) (fun e => HNG.out (Option.some.inj e).symm)).trans HX.out⟩
     have HGL := Aside0.mk HB0.out.lt
     have htI : (t : Int) < (hi : Int) := by omega
     have htn : (t : Int) < (n : Int) := by omega
     clear HR HX HB0
     go_wp2_with fail
     exact ⟨⟨t + 1, _, by go_num, by omega, by omega, HR2, HP2, HX2, ⟨HB.out.setCell (p := ⟨gl, t, none⟩) HGL.out _⟩⟩, by simp [intOf]; omega⟩
    ·have et : t = hi := by omega
     subst et
     have HR3 : Aside0 (RepB (linkedB ((l.take (k + 1)).map lkOf)) bs) := ⟨by
      intro q hq
      rw [HR.out q hq, List.take_succ_eq_append_getElem hlt, List.map_append]
      unfold linkedB
      rw [List.any_append]
      have ea : (lkOf l[k]).a = lo := by unfold lkOf; dsimp only; rw [HLO.out, Int.toNat_natCast]
      have eb : (lkOf l[k]).b = t := by unfold lkOf; dsimp only; rw [HHI.out, Int.toNat_natCast]
      simp [ea, eb]⟩
     clear HR
     go_wp2_with fail
     exact ⟨⟨k + 1, bs, by go_num, by omega, HR3, HB0, HB⟩, by simp [intOf]; omega⟩
  ·have ek : k = l.length := by omega
   subst ek
   have HR2 : Aside0 (RepB (linkedB (l.map lkOf)) bs) := ⟨by have := HR.out; rwa [List.take_of_length_le (Nat.le_refl _)] at this⟩
   clear HR
   obtain ⟨f, hfe⟩ : ∃ f, f = firstF (l.map lkOf) n := ⟨_, rfl⟩
   have HFE := Aside0.mk hfe; clear hfe
   go_wp2_with (go_at_call 252; refine (index_c n HB0.out HB0.out.len.symm (by omega) HR2.out HF.out).mono ?_; rintro e w3 ⟨rfl, hd⟩; rw [← HFE.out]; have hb3 := drawn0_below hd; have HB3 : Aside0 (Below w.heap.size w w3) := ⟨below_step HB.out hb3⟩; have HB03 := Aside0.mk (HB0.out.below hb3); clear hd hb3 HB HB0)
   have HW3 := Aside0.mk (HW.out.below HB3.out)
   have HV3 := Aside0.mk (HV.out.below HB3.out)
   have HG3 := Aside0.mk (below_grownBy HB3.out (some g))
   have HNL : Aside0 (gl ≠ g) := ⟨by have := HB03.out.lt; omega⟩
   go_loopw [39] (fun v wr => ∃ (i : Nat) (p : List Int), v = .int .i64 i ∧ i ≤ n ∧ Aside0 (WV wr B g n m N cap) ∧ Aside0 (LI wr base g N cap p) ∧ Aside0 (PF N (strayF (l.map lkOf) n r i) p) ∧ Aside0 (LabOk N (strayF (l.map lkOf) n r i)) ∧ Aside0 (LB wr w.heap.size gl n capl bs) ∧ Aside0 (w.grownBy wr (some g))) (fun v _ => n - (intOf v).toNat)
   case atStart => exact ⟨0, p, rfl, Nat.zero_le _, HW3, HV3, HP, HO, HB03, HG3⟩
   case round =>
    clear HW3 HV3 HG3 HB03 HW HV HP HO HB3
    obtain ⟨i, p, rfl, hi, HW, HV, HP, HO, HB0, HG⟩ := hrel
    by_cases hlt : i < n
    ·have hcl := HB0.out.cell i hlt
     rw [HR2.out i (by rw [← HB0.out.len]; exact hlt)] at hcl
     have d0 := HW.out.c0
     have hiI : (i : Int) < (n : Int) := by omega
     obtain ⟨b, hb⟩ : ∃ b, b = linkedB (l.map lkOf) i := ⟨_, rfl⟩
     rw [← hb] at hcl
     have HBB := Aside0.mk hb; clear hb
     cases b with
     | true =>
      have HST : Aside0 (strayF (l.map lkOf) n r (i + 1) = strayF (l.map lkOf) n r i) := ⟨by show (if linkedB (l.map lkOf) i then _ else _) = _; rw [if_pos HBB.out.symm]⟩
      go_wp2_with fail
      exact ⟨⟨i + 1, p, by go_num, by omega, HW, HV, ⟨by rw [HST.out]; exact HP.out⟩, ⟨by rw [HST.out]; exact HO.out⟩, HB0, HG⟩, by simp [intOf]; omega⟩
     | false =>
      by_cases hfi : f < i
      ·have HST : Aside0 (strayF (l.map lkOf) n r (i + 1) = merge (strayF (l.map lkOf) n r i) (i - 1) i) := ⟨by show (if linkedB (l.map lkOf) i then _ else _) = _; rw [if_neg (by rw [← HBB.out]; simp), if_pos (by rw [← HFE.out]; exact hfi)]⟩
       have hfI : (f : Int) < (i : Int) := by omega
       have e1 : IntKind.i64.wrap ((i : Int) - 1) = ((i - 1 : Nat) : Int) := by rw [IntWalk.i64_in _ (by omega)]; omega
       obtain ⟨j, hj⟩ : ∃ j, j = i - 1 := ⟨_, rfl⟩
       rw [← hj] at e1
       have HJ := Aside0.mk hj
       have hjN : j < N := by omega
       have hiN : i < N := by omega
       clear hj
       go_wp2_with (go_at_call 251; refine (join_c HV.out HP.out HO.out (by omega) j i hjN hiN).mono ?_; rintro e w5 ⟨p1, rfl, a1, a2, a3⟩; have HV5 := Aside0.mk a1; have HP5 : Aside0 (PF N (strayF (l.map lkOf) n r (i + 1)) p1) := ⟨by rw [HST.out, ← HJ.out]; exact a2⟩; have HG5 := Aside0.mk a3; clear a1 a2 a3)
       exact ⟨⟨i + 1, p1, by go_num, by omega, ⟨HW.out.grown HG5.out hne⟩, HV5, HP5, ⟨by rw [HST.out]; exact HO.out.merge _ _ (by omega) hiN⟩, ⟨Kd.R_grown HB0.out HG5.out (fun q hq e => HNL.out (by rw [← hq]; exact Option.some.inj e))⟩, ⟨World.grownBy.trans HG.out HG5.out⟩⟩, by simp [intOf]; omega⟩
      ·have HST : Aside0 (strayF (l.map lkOf) n r (i + 1) = merge (strayF (l.map lkOf) n r i) i (i + 1)) := ⟨by show (if linkedB (l.map lkOf) i then _ else _) = _; rw [if_neg (by rw [← HBB.out]; simp), if_neg (by rw [← HFE.out]; exact hfi)]⟩
       have hfI : ¬ (f : Int) < (i : Int) := by omega
       have hfI2 : (i : Int) ≤ (f : Int) := by omega
       have hjN : i + 1 < N := by omega
       have hiN : i < N := by omega
       have e1 : IntKind.i64.wrap ((i : Int) + 1) = ((i + 1 : Nat) : Int) := by rw [IntWalk.i64_in _ (by omega)]; omega
       go_wp2_with (go_at_call 251; refine (join_c HV.out HP.out HO.out (by omega) i (i + 1) hiN hjN).mono ?_; rintro e w5 ⟨p1, rfl, a1, a2, a3⟩; have HV5 := Aside0.mk a1; have HP5 : Aside0 (PF N (strayF (l.map lkOf) n r (i + 1)) p1) := ⟨by rw [HST.out]; exact a2⟩; have HG5 := Aside0.mk a3; clear a1 a2 a3)
       exact ⟨⟨i + 1, p1, by go_num, by omega, ⟨HW.out.grown HG5.out hne⟩, HV5, HP5, ⟨by rw [HST.out]; exact HO.out.merge _ _ hiN hjN⟩, ⟨Kd.R_grown HB0.out HG5.out (fun q hq e => HNL.out (by rw [← hq]; exact Option.some.inj e))⟩, ⟨World.grownBy.trans HG.out HG5.out⟩⟩, by simp [intOf]; omega⟩
    ·have ei : i = n := by omega
     subst ei
     go_wp2_with fail
     go_end0
     exact ⟨rfl, p, HV.out, HP.out, HG.out⟩
end Go.Proofs.YtemhccjjcioodaaGreat.CFin
namespace Go.Proofs.YtemhccjjcioodaaGreat.CFin
open Go.RowKit Go.Maps Go.Proofs.YtemhccjjcioodaaGreatW.PrintWords Go.Proofs.YtemhccjjcioodaaGreatW.PrintMore Go.Proofs.YtemhccjjcioodaaGreatW.PrintLast Go.Proofs.YtemhccjjcioodaaGreat.U Go.Proofs.YtemhccjjcioodaaGreat.PClusterFinest Go.Proofs.YtemhccjjcioodaaGreat.UFinest Go.Proofs.YtemhccjjcioodaaGreat.UFinEv
theorem keyed3 : Keyed Tryz.prog 3 := int_keyed Tryz.underlying3
def MV (w : World) (b n : Nat) (f : Nat → Nat) : Prop := ∃ D : DataW Unit, IsMap D ∧ w.ownsMap Tryz.prog 3 (plainElem Tryz.prog 3) b n D ∧ ∀ v : Nat, D.atKey (.int .i64 v) (.lit (.int .i64 0)) = .lit (.int .i64 (f v : Nat))
theorem MV.made (w : World) : MV (w.alloc (.map #[] 0)) w.heap.size 0 (fun _ => 0) := ⟨.map [], isMap_empty, World.ownsMap_made w _ _ _, fun v => rfl⟩
theorem MV.kept {w w' : World} {b n : Nat} {f : Nat → Nat} (h : MV w b n f) {row : Option Nat} (hg : w.grownBy w' row) (hne : some b ≠ row) : MV w' b n f := by
 obtain ⟨D, h1, h2, h3⟩ := h
 exact ⟨D, h1, h2.kept hg hne, h3⟩
theorem key3 (v : Nat) (hv : v ≤ 1000000) : keyOf Tryz.prog 3 (.int .i64 v) = some (.int .i64 v) := by
 simp [keyOf, mapKey, Tryz.underlying3, Lit.wf]
 have : IntKind.i64.min = -9223372036854775808 := by decide
 omega
set_option maxRecDepth 100000 in
theorem MV.lookup {w : World} {b n : Nat} {f : Nat → Nat} (h : MV w b n f) (v : Nat) (hv : v ≤ 1000000) (hz : (zeroValue 3).run Tryz.prog w = .ok (.int .i64 0) w) : (Instr.lookup 259 (.map (some b)) (.int .i64 v) false).run Tryz.prog w = .ok (.int .i64 (f v : Nat)) w := by
 obtain ⟨D, h1, h2, h3⟩ := h
 obtain ⟨c, hr, hc, _⟩ := h2.lookup_int keyed3 Tryz.underlying259 Tryz.underlying3 hz (key3 v hv)
 rw [h3 v] at hc
 injection hc with hc
 injection hc with _ hc
 rw [hc]
 exact hr
theorem MV.put {w w' : World} {b n v i : Nat} {f : Nat → Nat} {D : DataW Unit} (h1 : IsMap D) (h3 : ∀ v : Nat, D.atKey (.int .i64 v) (.lit (.int .i64 0)) = .lit (.int .i64 (f v : Nat))) (hv : v ≤ 1000000) (h2 : w'.ownsMap Tryz.prog 3 (plainElem Tryz.prog 3) b (n + 1) (D.put (.int .i64 v) (.lit (.int .i64 i)))) : MV w' b (n + 1) (fun x => if x = v then i else f x) := by
 refine ⟨_, h1.put _ _, h2, fun x => ?_⟩
 by_cases e : x = v
 ·subst e
  rw [atKey_put_same h1 (keyed3.key (key3 x hv))]
  dsimp only
  rw [if_pos rfl]
 ·rw [atKey_put_other (fun h => e (by injection h with _ h; omega))]
  dsimp only
  rw [if_neg e]
  exact h3 x
theorem elem3 (i : Nat) (hi : i ≤ 1000000) : (plainElem Tryz.prog 3 (.int .i64 i) : Option (DataW Unit × List MemPlace)) = some (.lit (.int .i64 i), []) := plainElem_int Tryz.underlying3 (by
 simp [Lit.wf]
 have : IntKind.i64.min = -9223372036854775808 := by decide
 omega)
theorem zero3 (w : World) : (zeroValue 3).run Tryz.prog w = .ok (.int .i64 0) w := by
 obtain ⟨i, hi, hz⟩ := Option.map_eq_some_iff.1 info3
 simp only [Prod.mk.injEq] at hz
 simp [zeroValue, typeInfo, hi, hz.1]
end Go.Proofs.YtemhccjjcioodaaGreat.CFin
namespace Go.Proofs.YtemhccjjcioodaaGreat.CFin
open Go.RowKit Go.Maps Go.Proofs.YtemhccjjcioodaaGreatW.PrintWords Go.Proofs.YtemhccjjcioodaaGreatW.PrintMore Go.Proofs.YtemhccjjcioodaaGreatW.PrintLast Go.Proofs.YtemhccjjcioodaaGreat.U Go.Proofs.YtemhccjjcioodaaGreat.PClusterFinest Go.Proofs.YtemhccjjcioodaaGreat.UFinest Go.Proofs.YtemhccjjcioodaaGreat.UFinEv
theorem labOk_closeIn {N : Nat} (last : Nat → Nat) (i : Nat) (hi : i < N) (hl : ∀ v, last v < N) (f : Nat) : ∀ (k : Nat) (r : Lab) (t : Bool), LabOk N r → LabOk N (closeIn last i f k r t).1 := by
 induction f with
 | zero => intro k r t h; exact h
 | succ f ih =>
  intro k r t h
  unfold closeIn
  split
  ·rename_i hk
   exact ih _ _ _ (h.merge _ _ hi (Nat.lt_of_le_of_lt hk (hl _)))
  ·exact h
theorem labOk_closeTo {N : Nat} (last : Nat → Nat) (lo hi : Nat) (hN : hi ≤ N) (hl : ∀ v, last v < N) (k : Nat) (hk : lo + k ≤ hi) (s : Lab × Bool) (h : LabOk N s.1) : LabOk N (closeTo last lo hi k s).1 := by
 induction k with
 | zero => exact h
 | succ k ih => exact labOk_closeIn last _ (by omega) hl _ _ _ _ (ih (by omega))
theorem labOk_closeF {N : Nat} {r : Lab} (lo hi : Nat) (hlh : lo < hi) (hN : hi ≤ N) (h : LabOk N r) : LabOk N (closeF r lo hi).1 :=
 labOk_closeTo _ lo hi hN (fun v => Nat.lt_of_lt_of_le (lastF_lt r lo hi hlh v) hN) _ (by omega) _ h
theorem MV.cast {w : World} {b n : Nat} {f f' : Nat → Nat} (h : MV w b n f) (e : ∀ v, f v = f' v) : MV w b n f' := by
 obtain rfl : f = f' := funext e
 exact h
theorem grown_new {w a b : World} {g gm : Nat} (h1 : w.grownBy a (some g)) (h2 : a.grownBy b (some gm)) (hgm : w.heap.size ≤ gm) : w.grownBy b (some g) :=
 ⟨h2.os.trans h1.os, h2.tape.trans h1.tape, h2.output.trans h1.output, Nat.le_trans h1.size h2.size, fun k hk hne => (h2.block k (Nat.lt_of_lt_of_le hk h1.size) (fun e => by have := Option.some.inj e; omega)).trans (h1.block k hk hne)⟩
theorem MV.last {w' : World} {b n x i lo j : Nat} {r : Lab} {D : DataW Unit} (hx : x = r i) (hi : i = lo + j) (hv : x ≤ 1000000) (h1 : IsMap D) (h3 : ∀ v : Nat, D.atKey (.int .i64 v) (.lit (.int .i64 0)) = .lit (.int .i64 (lastF r lo j v : Nat))) (h2 : w'.ownsMap Tryz.prog 3 (plainElem Tryz.prog 3) b (n + 1) (D.put (.int .i64 x) (.lit (.int .i64 i)))) : MV w' b (n + 1) (lastF r lo (j + 1)) := by
 refine (MV.put (w := w') h1 h3 hv h2).cast fun v => ?_
 subst hx hi
 show (if v = r (lo + j) then lo + j else lastF r lo j v) = (if r (lo + j) = v then lo + j else lastF r lo j v)
 simp only [eq_comm]
set_option maxRecDepth 100000 in
set_option maxHeartbeats 1000000 in
theorem close_c {w : World} {base B g n m N cap : Nat} {p : List Int} {r : Lab} (hW : WV w B g n m N cap) (h : LI w base g N cap p) (hne : B ≠ g) (hp : PF N r p) (ho : LabOk N r) (hN : N ≤ 100000) (lo hi : Nat) (hlh : lo < hi) (hh : hi ≤ N) :
 Calls Tryz.prog 192 #[.pointer (some ⟨B, 0, none⟩), .agg #[.int .i64 lo, .int .i64 hi]] w fun e w' => e = .returned (.bool (closeF r lo hi).2) ∧ ∃ p', LI w' base g N cap p' ∧ PF N (closeF r lo hi).1 p' ∧ w.grownBy w' (some g) := by
 have HW := Aside0.mk hW
 have HV := Aside0.mk h
 have HP := Aside0.mk hp
 have HO := Aside0.mk ho
 have hgw := h.ltw
 clear hW h hp ho
 have hmm := @run_makeMap Tryz.prog
 go_enter Tryz.func192, Tryz.ntmps192
 go_wp2_with (first | ((with_reducible refine gate_dst (N := 3) rfl ?_); refine box_event ?hg (N := 3) ?hd (cs := #[.int .i64 lo, .int .i64 hi]) (t := 34) ?hr ?_; (case hd => rfl); (case hg => rfl); (case hr => first | (go_simp; done) | (go_simp; rfl)); intro gb hg w5 hbox hb; have HW5 := Aside0.mk ((HW.out.below hb).below (below_alloc (Below.refl _ _) (.map #[] 0))); have HV5 := Aside0.mk ((HV.out.below hb).below (below_alloc (Below.refl _ _) (.map #[] 0))); have HX : Aside0 ((w5.alloc (.map #[] 0)).heap[gb]? = _) := ⟨(World.grownBy_alloc w5 (.map #[] 0) none |>.block _ (blk_lt hbox) (by simp)).trans hbox⟩; have HGB : Aside0 (gb ≠ g) := ⟨by omega⟩; have HG5 : Aside0 (w.grownBy (w5.alloc (.map #[] 0)) (some g)) := ⟨World.grownBy.trans (below_grownBy hb (some g)) (World.grownBy_alloc _ _ _)⟩; have HM5 : Aside0 (MV (w5.alloc (.map #[] 0)) w5.heap.size 0 (lastF r lo 0)) := ⟨MV.made w5⟩; have HMG : Aside0 (w5.heap.size ≠ g) := ⟨by have := (HV.out.below hb).ltw; omega⟩; have HMW : Aside0 (B ≠ w5.heap.size) := ⟨by have := blk_lt (HW.out.below hb); omega⟩; have HMS : Aside0 (w.heap.size ≤ w5.heap.size) := ⟨hb.size⟩; have HMB : Aside0 (w5.heap.size ≠ gb) := ⟨by have := blk_lt hbox; omega⟩; have b0 : (w5.alloc (.map #[] 0)).cell? ⟨gb, 0, none⟩ = some (.int .i64 lo) := (blk_cell HX.out 0).trans rfl; clear hg hbox hb HW HV))
 generalize w5.heap.size = gm at *
 clear hmm
 go_loopw [6] (fun v wr => ∃ (j : Nat) (p : List Int), v = .int .i64 ((lo + j : Nat) : Int) ∧ lo + j ≤ hi ∧ Aside0 (WV wr B g n m N cap) ∧ Aside0 (LI wr base g N cap p) ∧ Aside0 (PF N r p) ∧ Aside0 (MV wr gm j (lastF r lo j)) ∧ Aside0 (wr.heap[gb]? = some (.cells #[.int .i64 lo, .int .i64 hi] 34 (0, 0))) ∧ Aside0 (w.grownBy wr (some g))) (fun v _ => hi - (intOf v).toNat)
 case atStart => exact ⟨0, p, rfl, by omega, HW5, HV5, HP, HM5, HX, HG5⟩
 case round =>
  clear HW5 HV5 HP HM5 HX HG5 b0
  obtain ⟨j, p, rfl, hj, HW, HV, HP, HM, HX, HG⟩ := hrel
  have b1 : wr.cell? ⟨gb, 1, none⟩ = some (.int .i64 hi) := (blk_cell HX.out 1).trans rfl
  have d0 := HW.out.c0
  by_cases hlt : lo + j < hi
  ·obtain ⟨i, hi'⟩ : ∃ i, i = lo + j := ⟨_, rfl⟩
   rw [← hi'] at hlt ⊢
   have hiI : (i : Int) < (hi : Int) := by omega
   have hiN : i < N := by omega
   obtain ⟨x, hx⟩ : ∃ x, x = r i := ⟨_, rfl⟩
   have HXE := Aside0.mk hx
   have hxN : x < N := by have := HO.out.le i hiN; omega
   have HIE := Aside0.mk hi'
   clear hx hi'
   go_wp2_with (first | (go_at_call 253; refine (find_c HV.out HP.out (by omega) i hiN).mono ?_; rintro e w6 ⟨p1, rfl, a1, a2, a3⟩; rw [← HXE.out]; have HV6 := Aside0.mk a1; have HP6 := Aside0.mk a2; have HG6 : Aside0 (wr.grownBy w6 (some g)) := ⟨a3⟩; clear a1 a2 a3 HV HP) | (at_mapUpdate; obtain ⟨D, m1, m2, m3⟩ := HM.out; refine wpList_mapUpdate_own _ rfl _ _ _ 259 rfl 3 3 keyed3 Tryz.underlying259 (plainElem Tryz.prog 3) gm j D rfl (m2.kept HG6.out (by intro e; exact HMG.out (Option.some.inj e))) (by unfold maxLen; omega) _ _ (.int .i64 x) rfl rfl (key3 x (by omega)) _ [] (elem3 i (by omega)) ?_; intro w7 m4 m5; have HM7 := Aside0.mk (MV.last HXE.out HIE.out (by omega) m1 m3 m4); have HG7 : Aside0 (w6.grownBy w7 (some gm)) := ⟨m5⟩; clear m1 m2 m3 m4 m5 HM))
   have HW7 : Aside0 (WV w7 B g n m N cap) := ⟨(HW.out.grown HG6.out hne).grown HG7.out HMW.out⟩
   have HV7 : Aside0 (LI w7 base g N cap p1) := ⟨HV6.out.grown HG7.out HMG.out.symm⟩
   have HX7 : Aside0 (w7.heap[gb]? = some (.cells #[.int .i64 lo, .int .i64 hi] 34 (0, 0))) := ⟨(HG7.out.block _ (Nat.lt_of_lt_of_le (blk_lt HX.out) HG6.out.size) (fun e => HMB.out (Option.some.inj e).symm)).trans ((HG6.out.block _ (blk_lt HX.out) (fun e => HGB.out (Option.some.inj e))).trans HX.out)⟩
   have HG8 : Aside0 (w.grownBy w7 (some g)) := ⟨grown_new (World.grownBy.trans HG.out HG6.out) HG7.out HMS.out⟩
   exact ⟨⟨j + 1, p1, by have := HIE.out; go_num, by have := HIE.out; omega, HW7, HV7, HP6, HM7, HX7, HG8⟩, by simp [intOf]; omega⟩
  ·obtain ⟨t, ht⟩ : ∃ t, t = hi - lo := ⟨_, rfl⟩
   have ejt : j = t := by omega
   subst ejt
   have ej : lo + j = hi := by omega
   rw [ej]
   obtain ⟨last, hlast⟩ : ∃ last, last = lastF r lo j := ⟨_, rfl⟩
   have HM2 : Aside0 (MV wr gm j last) := ⟨by rw [hlast]; exact HM.out⟩
   have HLB : Aside0 (∀ v, last v < hi) := ⟨fun v => by rw [hlast, ht]; exact lastF_lt r lo hi hlh v⟩
   have HCF : Aside0 (closeF r lo hi = closeTo last lo hi (hi - lo) (r, false)) := ⟨by rw [hlast, ht]; rfl⟩
   clear hlast ht HM hlt
   have b0 := (blk_cell HX.out 0).trans rfl
   go_wp2_with fail
   go_loopw [7, 8] (fun v7 v8 wr => ∃ (q : Nat) (p : List Int) (r1 : Lab) (t1 : Bool), v8 = .int .i64 ((lo + q : Nat) : Int) ∧ v7 = .bool t1 ∧ lo + q ≤ hi ∧ Aside0 (closeTo last lo hi q (r, false) = (r1, t1)) ∧ Aside0 (WV wr B g n m N cap) ∧ Aside0 (LI wr base g N cap p) ∧ Aside0 (PF N r1 p) ∧ Aside0 (LabOk N r1) ∧ Aside0 (MV wr gm j last) ∧ Aside0 (wr.heap[gb]? = some (.cells #[.int .i64 lo, .int .i64 hi] 34 (0, 0))) ∧ Aside0 (w.grownBy wr (some g))) (fun _ v _ => hi - (intOf v).toNat)
   case atStart => exact ⟨0, p, r, false, rfl, rfl, by omega, ⟨rfl⟩, HW, HV, HP, HO, HM2, HX, HG⟩
   case round =>
    clear HW HV HP HO HM2 HX HG b0 b1 d0
    obtain ⟨q, p, r1, t1, rfl, rfl, hq, HS, HW, HV, HP, HO, HM, HX, HG⟩ := hrel
    have b1 : wr.cell? ⟨gb, 1, none⟩ = some (.int .i64 hi) := (blk_cell HX.out 1).trans rfl
    by_cases hlt : lo + q < hi
    ·obtain ⟨i, hi'⟩ : ∃ i, i = lo + q := ⟨_, rfl⟩
     rw [← hi'] at hlt ⊢
     have hiI : (i : Int) < (hi : Int) := by omega
     have hiN : i < N := by omega
     have HIE := Aside0.mk hi'
     have e1 : IntKind.i64.wrap ((i : Int) + 1) = ((i + 1 : Nat) : Int) := by rw [IntWalk.i64_in _ (by omega)]; omega
     clear hi'
     go_wp2_with fail
     go_loopw [7, 9] (fun v7 v9 wr => ∃ (k f : Nat) (p : List Int) (r2 : Lab) (t2 : Bool), v9 = .int .i64 (k : Int) ∧ v7 = .bool t2 ∧ i < k ∧ k ≤ hi ∧ f + k = hi + i + 2 ∧ Aside0 (closeIn last i f k r2 t2 = closeIn last i (hi + 1) (i + 1) r1 t1) ∧ Aside0 (WV wr B g n m N cap) ∧ Aside0 (LI wr base g N cap p) ∧ Aside0 (PF N r2 p) ∧ Aside0 (LabOk N r2) ∧ Aside0 (MV wr gm j last) ∧ Aside0 (wr.heap[gb]? = some (.cells #[.int .i64 lo, .int .i64 hi] 34 (0, 0))) ∧ Aside0 (w.grownBy wr (some g))) (fun _ v _ => hi + 1 - (intOf v).toNat)
     case atStart => exact ⟨i + 1, hi + 1, p, r1, t1, by go_num, rfl, by omega, by omega, by omega, ⟨rfl⟩, HW, HV, HP, HO, HM, HX, HG⟩
     case round =>
      clear HW HV HP HO HM HX HG b1
      obtain ⟨k, f, p, r2, t2, rfl, rfl, hik, hkh, hf, HC, HW, HV, HP, HO, HM, HX, HG⟩ := hrel
      have d0 := HW.out.c0
      have hkN : k ≤ N := by omega
      obtain ⟨f, rfl⟩ : ∃ f', f = f' + 1 := ⟨f - 1, by omega⟩
      obtain ⟨x, hx⟩ : ∃ x, x = r2 i := ⟨_, rfl⟩
      have hxN : x < N := by have := HO.out.le i hiN; omega
      obtain ⟨z, hz⟩ : ∃ z, z = last x := ⟨_, rfl⟩
      have hzh : z < hi := by rw [hz]; exact HLB.out x
      have hC := HC.out
      rw [closeIn] at hC
      rw [← hx, ← hz] at hC
      have HXE := Aside0.mk hx
      have HZE := Aside0.mk hz
      clear hx hz HC
      by_cases hkz : k ≤ z
      ·rw [if_pos hkz] at hC
       have HC := Aside0.mk hC
       have hkzI : (k : Int) ≤ (z : Int) := by omega
       clear hC
       have hkN2 : k < N := by omega
       go_wp2_with (first | (go_at_call 253; refine (find_c HV.out HP.out (by omega) i hiN).mono ?_; rintro e w6 ⟨p1, rfl, a1, a2, a3⟩; rw [← HXE.out]; have HV6 := Aside0.mk a1; have HP6 := Aside0.mk a2; have HG6 : Aside0 (wr.grownBy w6 (some g)) := ⟨a3⟩; have hlk := (HM.out.kept a3 (fun e => HMG.out (Option.some.inj e))).lookup x (by omega) (zero3 w6); rw [← HZE.out] at hlk; have HW6 := Aside0.mk (HW.out.grown a3 hne); have d06 := HW6.out.c0; clear a1 a2 a3 HV HP) | (go_at_call 251; refine (join_c HV6.out HP6.out HO.out (by omega) i k hiN hkN2).mono ?_; rintro e w7 ⟨p2, rfl, a1, a2, a3⟩; have HV7 := Aside0.mk a1; have HP7 := Aside0.mk a2; have HG7 : Aside0 (wr.grownBy w7 (some g)) := ⟨World.grownBy.trans HG6.out a3⟩; obtain ⟨bb, hbb⟩ : ∃ bb, bb = two r2 i k := ⟨_, rfl⟩; have HBB := Aside0.mk hbb; rw [← hbb]; clear a1 a2 a3 hbb; cases bb))
       ·have HC2 : Aside0 (closeIn last i f (k + 1) (merge r2 i k) t2 = closeIn last i (hi + 1) (i + 1) r1 t1) := ⟨by have := HC.out; rw [← HBB.out] at this; simpa using this⟩
        exact ⟨⟨k + 1, f, p2, _, t2, by go_num, rfl, by omega, by omega, by omega, HC2, ⟨HW.out.grown HG7.out hne⟩, HV7, HP7, ⟨HO.out.merge _ _ hiN hkN2⟩, ⟨HM.out.kept HG7.out (fun e => HMG.out (Option.some.inj e))⟩, ⟨(HG7.out.block _ (blk_lt HX.out) (fun e => HGB.out (Option.some.inj e))).trans HX.out⟩, ⟨World.grownBy.trans HG.out HG7.out⟩⟩, by simp [intOf]; omega⟩
       ·have HC2 : Aside0 (closeIn last i f (k + 1) (merge r2 i k) true = closeIn last i (hi + 1) (i + 1) r1 t1) := ⟨by have := HC.out; rw [← HBB.out] at this; simpa using this⟩
        exact ⟨⟨k + 1, f, p2, _, true, by go_num, rfl, by omega, by omega, by omega, HC2, ⟨HW.out.grown HG7.out hne⟩, HV7, HP7, ⟨HO.out.merge _ _ hiN hkN2⟩, ⟨HM.out.kept HG7.out (fun e => HMG.out (Option.some.inj e))⟩, ⟨(HG7.out.block _ (blk_lt HX.out) (fun e => HGB.out (Option.some.inj e))).trans HX.out⟩, ⟨World.grownBy.trans HG.out HG7.out⟩⟩, by simp [intOf]; omega⟩
      ·rw [if_neg hkz] at hC
       have HS2 : Aside0 (closeTo last lo hi (q + 1) (r, false) = (r2, t2)) := ⟨by rw [closeTo, HS.out, ← HIE.out]; exact hC.symm⟩
       have hkzI : ¬ (k : Int) ≤ (z : Int) := by omega
       clear hC
       go_wp2_with (first | (go_at_call 253; refine (find_c HV.out HP.out (by omega) i hiN).mono ?_; rintro e w6 ⟨p1, rfl, a1, a2, a3⟩; rw [← HXE.out]; have HV6 := Aside0.mk a1; have HP6 := Aside0.mk a2; have HG6 : Aside0 (wr.grownBy w6 (some g)) := ⟨a3⟩; have hlk := (HM.out.kept a3 (fun e => HMG.out (Option.some.inj e))).lookup x (by omega) (zero3 w6); rw [← HZE.out] at hlk; clear a1 a2 a3 HV HP))
       exact ⟨⟨q + 1, p1, r2, t2, by have := HIE.out; go_num, rfl, by have := HIE.out; omega, HS2, ⟨HW.out.grown HG6.out hne⟩, HV6, HP6, HO, ⟨HM.out.kept HG6.out (fun e => HMG.out (Option.some.inj e))⟩, ⟨(HG6.out.block _ (blk_lt HX.out) (fun e => HGB.out (Option.some.inj e))).trans HX.out⟩, ⟨World.grownBy.trans HG.out HG6.out⟩⟩, by simp [intOf]; omega⟩
    ·have eq : lo + q = hi := by omega
     have eqt : q = hi - lo := by omega
     have HS2 : Aside0 (closeF r lo hi = (r1, t1)) := ⟨by rw [HCF.out, ← eqt]; exact HS.out⟩
     rw [eq]
     clear eqt
     go_wp2_with fail
     go_ret
     exact ⟨by rw [HS2.out]; rfl, p, HV.out, by rw [HS2.out]; exact HP.out, HG.out⟩
end Go.Proofs.YtemhccjjcioodaaGreat.CFin
end
section
namespace Go.Proofs.YtemhccjjcioodaaGreat.KRank
open Go.RowKit Go.Proofs.YtemhccjjcioodaaGreatW.PrintWords Go.Proofs.YtemhccjjcioodaaGreatW.PrintMore Go.Proofs.YtemhccjjcioodaaGreatW.PrintLast Go.Proofs.YtemhccjjcioodaaGreat.PKashidaStretches
def rankO (c : Int) : Int := if c = 1600 then 1 else if c = 1587 ∨ c = 1588 ∨ c = 1589 ∨ c = 1590 then 2 else if c = 1577 ∨ c = 1583 ∨ c = 1584 ∨ c = 1607 ∨ c = 1729 ∨ c = 1749 then 3 else if c = 1575 ∨ c = 1591 ∨ c = 1592 ∨ c = 1604 ∨ c = 1603 ∨ c = 1705 ∨ c = 1711 then 4 else if c = 1585 ∨ c = 1586 ∨ c = 1610 ∨ c = 1740 ∨ c = 1602 ∨ c = 1601 ∨ c = 1593 then 5 else 6
set_option maxRecDepth 100000 in
set_option maxHeartbeats 16000000 in
theorem rank_f (c : Int) : kashida_Rank.f 20 c = some (rankO c) := by
 by_cases h1600 : c = 1600
 ·subst h1600; kernel_rfl
 by_cases h1587 : c = 1587
 ·subst h1587; kernel_rfl
 by_cases h1588 : c = 1588
 ·subst h1588; kernel_rfl
 by_cases h1589 : c = 1589
 ·subst h1589; kernel_rfl
 by_cases h1590 : c = 1590
 ·subst h1590; kernel_rfl
 by_cases h1577 : c = 1577
 ·subst h1577; kernel_rfl
 by_cases h1583 : c = 1583
 ·subst h1583; kernel_rfl
 by_cases h1584 : c = 1584
 ·subst h1584; kernel_rfl
 by_cases h1607 : c = 1607
 ·subst h1607; kernel_rfl
 by_cases h1729 : c = 1729
 ·subst h1729; kernel_rfl
 by_cases h1749 : c = 1749
 ·subst h1749; kernel_rfl
 by_cases h1575 : c = 1575
 ·subst h1575; kernel_rfl
 by_cases h1591 : c = 1591
 ·subst h1591; kernel_rfl
 by_cases h1592 : c = 1592
 ·subst h1592; kernel_rfl
 by_cases h1604 : c = 1604
 ·subst h1604; kernel_rfl
 by_cases h1603 : c = 1603
 ·subst h1603; kernel_rfl
 by_cases h1705 : c = 1705
 ·subst h1705; kernel_rfl
 by_cases h1711 : c = 1711
 ·subst h1711; kernel_rfl
 by_cases h1585 : c = 1585
 ·subst h1585; kernel_rfl
 by_cases h1586 : c = 1586
 ·subst h1586; kernel_rfl
 by_cases h1610 : c = 1610
 ·subst h1610; kernel_rfl
 by_cases h1740 : c = 1740
 ·subst h1740; kernel_rfl
 by_cases h1602 : c = 1602
 ·subst h1602; kernel_rfl
 by_cases h1601 : c = 1601
 ·subst h1601; kernel_rfl
 by_cases h1593 : c = 1593
 ·subst h1593; kernel_rfl
 have e : rankO c = 6 := by simp [rankO, h1600, h1587, h1588, h1589, h1590, h1577, h1583, h1584, h1607, h1729, h1749, h1575, h1591, h1592, h1604, h1603, h1705, h1711, h1585, h1586, h1610, h1740, h1602, h1601, h1593]
 rw [e]
 simp [kashida_Rank.f, kashida_Rank.l0, slices_Contains_int_int.f, slices_Index_int_int.f, slices_Index_int_int.l0, rd_L2, rd, wrap64, h1600, h1587, h1588, h1589, h1590, h1577, h1583, h1584, h1607, h1729, h1749, h1575, h1591, h1592, h1604, h1603, h1705, h1711, h1585, h1586, h1610, h1740, h1602, h1601, h1593]
def alefB (c : Int) : Bool := decide (c = 1570 ∨ c = 1571 ∨ c = 1573 ∨ c = 1575)
set_option maxRecDepth 100000 in
set_option maxHeartbeats 16000000 in
theorem alef_f (c : Int) : lamalef_Alef.f 20 c = some (alefB c) := by
 by_cases h1570 : c = 1570
 ·subst h1570; kernel_rfl
 by_cases h1571 : c = 1571
 ·subst h1571; kernel_rfl
 by_cases h1573 : c = 1573
 ·subst h1573; kernel_rfl
 by_cases h1575 : c = 1575
 ·subst h1575; kernel_rfl
 have e : alefB c = false := by simp [alefB, h1570, h1571, h1573, h1575]
 rw [e]
 simp [lamalef_Alef.f, forms_Ligate.f, forms_alef.f, forms_alef.l0, api_Ligatures.f, rd_T95, wrap64, h1570, Ne.symm h1570, h1571, Ne.symm h1571, h1573, Ne.symm h1573, h1575, Ne.symm h1575]
set_option maxRecDepth 100000 in
set_option maxHeartbeats 16000000 in
theorem ralef_f (c : Int) : naskhref14_Alef.f 20 c = some (alefB c) := by
 by_cases h1570 : c = 1570
 ·subst h1570; kernel_rfl
 by_cases h1571 : c = 1571
 ·subst h1571; kernel_rfl
 by_cases h1573 : c = 1573
 ·subst h1573; kernel_rfl
 by_cases h1575 : c = 1575
 ·subst h1575; kernel_rfl
 have e : alefB c = false := by simp [alefB, h1570, h1571, h1573, h1575]
 rw [e]
 simp [naskhref14_Alef.f, naskhref09_Ligate.f, naskhref09_Ligate.l0, naskhref09_Ligate.j1, api_Ligatures.f, rd_T95, wrap64, h1570, Ne.symm h1570, h1571, Ne.symm h1571, h1573, Ne.symm h1573, h1575, Ne.symm h1575]
theorem rank_c (c : Int) (w : World) : Calls Tryz.prog 21 #[.int .i64 c] w fun e w' => e = .returned (.int .i64 (rankO c)) ∧ Below w.heap.size w w' := kashida_Rank.calls 20 c _ w (rank_f c)
theorem alef_c (c : Int) (w : World) : Calls Tryz.prog 181 #[.int .i64 c] w fun e w' => e = .returned (.bool (alefB c)) ∧ Below w.heap.size w w' := lamalef_Alef.calls 20 c _ w (alef_f c)
end Go.Proofs.YtemhccjjcioodaaGreat.KRank
end
section
namespace Go.Proofs.YtemhccjjcioodaaGreat.PEmbedJoins
open Go.RowKit Go.Proofs.YtemhccjjcioodaaGreatW.PrintWords Go.Proofs.YtemhccjjcioodaaGreatW.PrintLast Go.Proofs.YtemhccjjcioodaaGreatW.PrintMore
attribute [local go_sem] max2_int min2_int max_two min_two max_three min_three max_four min_four   -- for this text's walks alone
def errW : Option Int → Value
 | none => .nilIface
 | some c => .iface 0 (.int .i64 c)
theorem errW_none : errW none = .nilIface := rfl
theorem errW_some (c : Int) : errW (some c) = .iface 0 (.int .i64 c) := rfl
-- the values' own types
structure S127 where
 f0 : Int
 f1 : Int
 f2 : Int
def z127 : S127 := ⟨(0 : Int), (0 : Int), (0 : Int)⟩
def k127 : Kd S127 := Kd.iso (Kd.pair (Kd.int .i64) (Kd.pair (Kd.int .i64) (Kd.int .i64))) (fun x : S127 => (x.f0, x.f1, x.f2))
theorem k127_open {w : World} {x : S127} {cs : List Value} (h : k127.K w x cs) : cs = [.int .i64 x.f0, .int .i64 x.f1, .int .i64 x.f2] := by
 obtain ⟨_, _, rfl, rfl, ⟨_, _, rfl, rfl, rfl⟩⟩ := h
 exact rfl
theorem k127_mk (w : World) (x : S127)  : k127.K w x [.int .i64 x.f0, .int .i64 x.f1, .int .i64 x.f2] := ⟨[.int .i64 x.f0], [.int .i64 x.f1, .int .i64 x.f2], rfl, rfl, ⟨[.int .i64 x.f1], [.int .i64 x.f2], rfl, rfl, rfl⟩⟩
def rd_T127 (xs : List S127) (i : Int) : S127 := xs.getD i.toNat z127
theorem at_T127 {w : World} {A : Option Addr} {n : Nat} {xs : List S127} (h : Kd.C k127 w A n xs) (i : Int) (h0 : 0 ≤ i) (h1 : i < n) : ∃ ad , A = some ad ∧ w.cell? (ad.add (i.toNat * 3)) = some (.int .i64 (rd_T127 xs i).f0) ∧ w.cell? ⟨(ad.add (i.toNat * 3)).block, (ad.add (i.toNat * 3)).off + 1, none⟩ = some (.int .i64 (rd_T127 xs i).f1) ∧ w.cell? ⟨(ad.add (i.toNat * 3)).block, (ad.add (i.toNat * 3)).off + 2, none⟩ = some (.int .i64 (rd_T127 xs i).f2) := by
 obtain ⟨ad, c, e, _, hK, hc0⟩ := Kd.C_get h z127 i h0 h1
 have hc : ∀ j u, c[j]? = some u → w.cell? (ad.add (i.toNat * 3 + j)) = some u := hc0
 obtain rfl := k127_open hK
 exact ⟨ad, e, hc 0 _ rfl, by rw [← add_field _ _ 1 (by omega)]; exact hc 1 _ rfl, by rw [← add_field _ _ 2 (by omega)]; exact hc 2 _ rfl⟩
end Go.Proofs.YtemhccjjcioodaaGreat.PEmbedJoins
end
section
namespace Go.Proofs.YtemhccjjcioodaaGreat.UTrie
open Go.RowKit Go.Proofs.YtemhccjjcioodaaGreatW.PrintWords Go.Proofs.YtemhccjjcioodaaGreat.U Go.Proofs.YtemhccjjcioodaaGreat.PEmbedJoins
def inR (c : Int) (r : S127) : Bool := decide (r.f0 ≤ c) && decide (c ≤ r.f1)
def getR (l : List S127) (n c : Int) : Int := match l.find? (inR c) with | some r => r.f2 | none => n
structure Ok (l : List S127) : Prop where
 apart : l.Pairwise (fun a b => a.f1 < b.f0)
 right : ∀ r ∈ l, 0 ≤ r.f0 ∧ r.f0 ≤ r.f1 ∧ r.f1 ≤ 1114111
theorem inR_iff (c : Int) (r : S127) : inR c r = true ↔ r.f0 ≤ c ∧ c ≤ r.f1 := by simp [inR]
theorem getR_none (l : List S127) (n c : Int) (h : ∀ r ∈ l, ¬ (r.f0 ≤ c ∧ c ≤ r.f1)) : getR l n c = n := by
 unfold getR
 rw [List.find?_eq_none.2 (fun r hr => by rw [inR_iff]; exact h r hr)]
theorem getR_append (a b : List S127) (n c : Int) : getR (a ++ b) n c = if (a.find? (inR c)).isSome then getR a n c else getR b n c := by
 unfold getR
 rw [List.find?_append]
 cases h : a.find? (inR c) with
 | none => simp
 | some r => simp
theorem getR_take (l : List S127) (ok : Ok l) (n c : Int) (k : Nat) (hk : k < l.length) : getR (l.take (k + 1)) n c = if l[k].f0 ≤ c ∧ c ≤ l[k].f1 then l[k].f2 else getR (l.take k) n c := by
 rw [List.take_succ_eq_append_getElem hk, getR_append]
 by_cases h : l[k].f0 ≤ c ∧ c ≤ l[k].f1
 ·rw [if_pos h]
  have hn : (l.take k).find? (inR c) = none := List.find?_eq_none.2 (fun r hr => by
   rw [inR_iff]
   obtain ⟨i, hi, rfl⟩ := List.mem_iff_getElem.1 hr
   rw [List.length_take] at hi
   rw [List.getElem_take]
   have := List.pairwise_iff_getElem.1 ok.apart i k (by omega) hk (by omega)
   omega)
  rw [hn]
  unfold getR
  rw [List.find?_cons, (inR_iff c l[k]).2 h]
  rfl
 ·rw [if_neg h]
  have h1 : getR [l[k]] n c = n := getR_none _ _ _ (fun r hr => by rw [List.mem_singleton.1 hr]; exact h)
  rw [h1]
  cases hf : (l.take k).find? (inR c) with
  | none => unfold getR; rw [hf]; rfl
  | some r => rfl
theorem getR_behind (l : List S127) (n c : Int) (k : Nat) (h : ∀ (i : Nat) (hi : i < l.length), k ≤ i → c < l[i].f0) : getR l n c = getR (l.take k) n c := by
 have e : l = l.take k ++ l.drop k := (List.take_append_drop k l).symm
 have h2 : getR (l.drop k) n c = n := getR_none _ _ _ (fun r hr => by
  obtain ⟨i, hi, rfl⟩ := List.mem_iff_getElem.1 hr
  rw [List.length_drop] at hi
  rw [List.getElem_drop]
  have := h (k + i) (by omega) (by omega)
  omega)
 have h3 : getR l n c = getR (l.take k ++ l.drop k) n c := by rw [List.take_append_drop]
 rw [h3, getR_append, h2]
 cases hf : (l.take k).find? (inR c) with
 | none => unfold getR; rw [hf]; rfl
 | some r => rfl
theorem getR_ahead (l : List S127) (n c : Int) (k : Nat) (h : ∀ (i : Nat) (hi : i < l.length), i < k → l[i].f1 < c) : getR (l.take k) n c = n := getR_none _ _ _ (fun r hr => by
 obtain ⟨i, hi, rfl⟩ := List.mem_iff_getElem.1 hr
 rw [List.length_take] at hi
 rw [List.getElem_take]
 have := h i (by omega) (by omega)
 omega)
def blockL (l : List S127) (n : Int) (p : Nat) : List Int := (List.range 128).map fun j => getR l n ((128 * p + j : Nat) : Int)
def partL (l : List S127) (n : Int) (p k : Nat) : List Int := (List.range 128).map fun j => getR (l.take k) n ((128 * p + j : Nat) : Int)
def withL (l : List S127) (n : Int) (p k : Nat) (r : S127) (c : Int) : List Int := (List.range 128).map fun j => if r.f0 ≤ ((128 * p + j : Nat) : Int) ∧ ((128 * p + j : Nat) : Int) < c then r.f2 else getR (l.take k) n ((128 * p + j : Nat) : Int)
theorem blockL_length (l : List S127) (n : Int) (p : Nat) : (blockL l n p).length = 128 := by simp [blockL]
theorem withL_length (l : List S127) (n : Int) (p k : Nat) (r : S127) (c : Int) : (withL l n p k r c).length = 128 := by simp [withL]
theorem partL_start (l : List S127) (n : Int) (p k : Nat) (h : ∀ (i : Nat) (hi : i < l.length), i < k → l[i].f1 < 128 * (p : Int)) : partL l n p k = List.replicate 128 n := by
 unfold partL
 apply List.ext_getElem
 ·simp
 ·intro j h1 h2
  rw [List.getElem_map, List.getElem_range, List.getElem_replicate]
  exact getR_ahead l n _ k (fun i hi hk => by have := h i hi hk; omega)
theorem withL_start (l : List S127) (n : Int) (p k : Nat) (r : S127) (c : Int) (h : c ≤ r.f0 ∨ c ≤ 128 * (p : Int)) : withL l n p k r c = partL l n p k := by
 unfold withL partL
 apply List.map_congr_left
 intro j _
 rw [if_neg (by omega)]
theorem withL_succ (l : List S127) (n : Int) (p k : Nat) (r : S127) (c : Int) (h1 : r.f0 ≤ c) (h2 : 128 * (p : Int) ≤ c) (h3 : c < 128 * (p : Int) + 128) : (withL l n p k r c).set (c - 128 * (p : Int)).toNat r.f2 = withL l n p k r (c + 1) := by
 apply List.ext_getElem
 ·simp [withL]
 ·intro j g1 g2
  rw [List.getElem_set]
  by_cases e : (c - 128 * (p : Int)).toNat = j
  ·rw [if_pos e]
   simp only [withL, List.getElem_map, List.getElem_range]
   rw [if_pos (by omega)]
  ·rw [if_neg e]
   simp only [withL, List.getElem_map, List.getElem_range]
   by_cases h : r.f0 ≤ ((128 * p + j : Nat) : Int) ∧ ((128 * p + j : Nat) : Int) < c
   ·rw [if_pos h, if_pos (by omega)]
   ·rw [if_neg h, if_neg (by omega)]
theorem withL_end (l : List S127) (ok : Ok l) (n : Int) (p k : Nat) (hk : k < l.length) (c : Int) (h : l[k].f1 < c ∨ 128 * (p : Int) + 128 ≤ c) (h2 : c ≤ l[k].f1 + 1 ∨ c ≤ 128 * (p : Int)) : withL l n p k l[k] c = partL l n p (k + 1) := by
 unfold withL partL
 apply List.map_congr_left
 intro j hj
 have hj := List.mem_range.1 hj
 rw [getR_take l ok n _ k hk]
 by_cases g : l[k].f0 ≤ ((128 * p + j : Nat) : Int) ∧ ((128 * p + j : Nat) : Int) < c
 ·rw [if_pos g, if_pos (by omega)]
 ·rw [if_neg g, if_neg (by omega)]
theorem partL_end (l : List S127) (n : Int) (p k : Nat) (h : ∀ (i : Nat) (hi : i < l.length), k ≤ i → 128 * (p : Int) + 128 ≤ l[i].f0) : partL l n p k = blockL l n p := by
 unfold partL blockL
 apply List.map_congr_left
 intro j hj
 have hj := List.mem_range.1 hj
 exact (getR_behind l n _ k (fun i hi hk => by have := h i hi hk; omega)).symm
theorem lo_from (l : List S127) (ok : Ok l) (k i : Nat) (hk : k < l.length) (hi : i < l.length) (h : k ≤ i) : l[k].f0 ≤ l[i].f0 := by
 by_cases e : k = i
 ·subst e; exact Int.le_refl _
 ·have h1 := List.pairwise_iff_getElem.1 ok.apart k i hk hi (by omega)
  have h2 := ok.right _ (List.getElem_mem hk)
  omega
theorem lo_behind (l : List S127) (ok : Ok l) (k i : Nat) (hk : k < l.length) (hi : i < l.length) (h : k < i) : l[k].f1 < l[i].f0 := List.pairwise_iff_getElem.1 ok.apart k i hk hi h
theorem blockL_get (l : List S127) (n : Int) (c : Nat) : (blockL l n (c / 128)).getD (c % 128) 0 = getR l n (c : Int) := by
 unfold blockL
 rw [List.getD_eq_getElem?_getD, List.getElem?_map, List.getElem?_range (by omega)]
 simp only [Option.map_some, Option.getD_some]
 congr 1
 omega
theorem round_facts (l : List S127) (ok : Ok l) (n : Int) (p k : Nat) (hk : k < l.length) : ∃ F : Int → List Int, (∀ c, c ≤ l[k].f0 ∨ c ≤ (p : Int) * 128 → F c = partL l n p k) ∧ (∀ c, l[k].f0 ≤ c → (p : Int) * 128 ≤ c → c < (p : Int) * 128 + 128 → (F c).set (c - (p : Int) * 128).toNat l[k].f2 = F (c + 1)) ∧ (∀ c, (l[k].f1 < c ∨ (p : Int) * 128 + 128 ≤ c) → (c ≤ l[k].f1 + 1 ∨ c ≤ (p : Int) * 128) → F c = partL l n p (k + 1)) ∧ (∀ c, (F c).length = 128) :=
 ⟨fun c => withL l n p k l[k] c, fun c h => withL_start l n p k l[k] c (by omega), fun c h1 h2 h3 => by have := withL_succ l n p k l[k] c h1 (by omega) (by omega); rwa [Int.mul_comm] at this, fun c h1 h2 => withL_end l ok n p k hk c (by omega) (by omega), fun c => withL_length l n p k l[k] c⟩
structure Tab (l : List S127) (n : Int) (first : List Int) (second : List (List Int)) (p : Nat) : Prop where
 len : first.length = 8704
 small : second.length ≤ p
 each : ∀ q : Nat, q < p → ∃ i : Nat, i < second.length ∧ first.getD q 0 = i ∧ second.getD i [] = blockL l n q
end Go.Proofs.YtemhccjjcioodaaGreat.UTrie
end
section
namespace Go.Proofs.YtemhccjjcioodaaGreat.CTrie
open Go.RowKit Go.Proofs.YtemhccjjcioodaaGreatW.PrintWords Go.Proofs.YtemhccjjcioodaaGreatW.PrintMore Go.Proofs.YtemhccjjcioodaaGreatW.PrintLast Go.Proofs.YtemhccjjcioodaaGreat.U Go.Proofs.YtemhccjjcioodaaGreat.UTrie Go.Proofs.YtemhccjjcioodaaGreat.PEmbedJoins
def vs (xs : List Int) : Array Value := (xs.map (Value.int .i64)).toArray
theorem vs_size (xs : List Int) : (vs xs).size = xs.length := by simp [vs]
theorem vs_set (xs : List Int) (i : Nat) (x : Int) : (vs xs).setIfInBounds i (.int .i64 x) = vs (xs.set i x) := by
 simp [vs, List.map_set]
theorem vs_get (xs : List Int) (i : Nat) (h : i < xs.length) : (vs xs)[i]? = some (.int .i64 (xs.getD i 0)) := by
 simp [vs, List.getD_eq_getElem?_getD, h]
theorem info122 : (Tryz.prog.info? 146).map (·.size) = some 128 := by kernel_rfl
abbrev Arr (w : World) (g : Nat) (xs : List Int) : Prop := w.heap[g]? = some (.cells (vs xs) 146 (0, 0))
theorem arr_load {w : World} {g : Nat} {xs : List Int} (h : Arr w g xs) (hl : xs.length = 128) : (loadVar 146 ⟨g, 0, none⟩).run Tryz.prog w = .ok (.agg (vs xs)) w :=
 run_loadVar_row w g 146 146 (vs xs) (0, 0) _ h Tryz.underlying146 rfl (by rw [info122, vs_size, hl])
theorem below_grown2 {B : Nat} {a w w' : World} {row : Option Nat} (h : Below B a w) (hB : B ≤ a.heap.size) (hg : w.grownBy w' row) (hr : ∀ k, row = some k → B ≤ k) : Below B a w' :=
 ⟨hg.os.trans h.os, hg.tape.trans h.tape, hg.output.trans h.output, Nat.le_trans h.size hg.size, fun k hk => (hg.block k (by have := h.size; omega) (fun e => by have := hr k e.symm; omega)).trans (h.block k hk)⟩
def evenL (v : Int) : List Int := List.replicate 128 v
theorem evenL_length (v : Int) : (evenL v).length = 128 := by simp [evenL]
def fillTo (v : Int) (k : Nat) : List Int := List.replicate k v ++ List.replicate (128 - k) 0
theorem fillTo_length (v : Int) (k : Nat) (h : k ≤ 128) : (fillTo v k).length = 128 := by simp [fillTo]; omega
theorem fillTo_succ (v : Int) (k : Nat) (h : k < 128) : (fillTo v k).set k v = fillTo v (k + 1) := by
 unfold fillTo
 rw [List.set_append_right _ _ (by simp), List.length_replicate, Nat.sub_self, show 128 - k = (128 - (k + 1)) + 1 by omega, List.replicate_succ, List.set_cons_zero, List.replicate_succ', List.append_assoc]
 rfl
theorem below_cells {B g : Nat} {a w : World} (h : Below B a w) (hg : B ≤ g) (o : Nat) (vs : List Value) : Below B a (w.setCells g o vs) := by
 obtain ⟨h1, h2, h3, h4⟩ := setCells_same g vs o w
 exact ⟨h1.trans h.os, h2.trans h.tape, h3.trans h.output, by rw [h4]; exact h.size, fun k hk => by rw [setCells_far vs o k (by omega)]; exact h.block k hk⟩
section
variable {o : Oper} {rest : List Oper} {ops : Array Oper} {a : Act} {Q : Exit → Act → World → Prop} {w : World}
theorem arr_load_arm {g : Nat} {xs : List Int} (hgd : o.guard = none) (x : Operand) (ho : o.op = .load 146 x) (hx : a.eval x = .pointer (some ⟨g, 0, none⟩)) (h : Arr w g xs) (hl : xs.length = 128)
 (hk : wpList Tryz.prog ops Q rest (a.put o.dst (.agg (vs xs))) w) : wpList Tryz.prog ops Q (o :: rest) a w := by
 refine wpList_plain hgd fun K hK => ?_
 have hrun : (execOp a.eval o).run Tryz.prog w = .ok (.value (.agg (vs xs))) w := by
  unfold execOp
  simp [ho, hx, Instr.loadAt, Instr.sureAddr, arr_load h hl]
 unfold Oper.wp
 rw [hrun]
 exact hK _ _ hk
theorem arr_store_arm {g : Nat} {old ys : List Int} (hgd : o.guard = none) (x y : Operand) (ho : o.op = .store 146 x y) (hd : o.dst = none) (hx : a.eval x = .pointer (some ⟨g, 0, none⟩)) (hy : a.eval y = .agg (vs ys)) (h : Arr w g old) (hl : old.length = 128) (hl2 : ys.length = 128)
 (hk : ∀ w1, Arr w1 g ys → w.grownBy w1 (some g) → w1.heap.size = w.heap.size → wpList Tryz.prog ops Q rest a w1) : wpList Tryz.prog ops Q (o :: rest) a w := by
 refine wpList_plain hgd fun K hK => ?_
 have hst : (storeVar 146 ⟨g, 0, none⟩ (.agg (vs ys))).run Tryz.prog w = .ok () (w.setRow g (vs ys)) :=
  run_storeVar_row w g 146 146 (vs old) (vs ys) h (by rw [info122, vs_size, hl2]) (by rw [vs_size, vs_size, hl, hl2]) (by simp [vs, Value.oneCell'])
 have hrun : (execOp a.eval o).run Tryz.prog w = .ok .skip (w.setRow g (vs ys)) := by
  unfold execOp
  simp [ho, hx, hy, Instr.storeAt, Instr.sureAddr, hst]
 unfold Oper.wp
 rw [hrun]
 show K (a.put o.dst undef) _
 rw [hd]
 refine hK _ _ (hk _ ?_ ?_ ?_)
 ·exact setRow_heap w g (vs old) (vs ys) 146 (0, 0) h
 ·exact ⟨rfl, rfl, rfl, by simp, fun k _ hne => setRow_other w g k _ (fun e => hne (by rw [e]))⟩
 ·simp
end
set_option maxRecDepth 100000 in
set_option maxHeartbeats 2000000 in
theorem even_c (v : Int) (w : World) : Calls Tryz.prog 178 #[.int .i64 v] w fun e w' => e = .returned (.agg (vs (evenL v))) ∧ Below w.heap.size w w' := by
 go_enter Tryz.func178, Tryz.ntmps178
 go_wp2
 have hz : Tryz.zeroCells146 = vs (evenL 0) := by kernel_rfl
 rw [hz]
 obtain ⟨W, hW⟩ : ∃ W, W = (w.alloc (.cells (vs (evenL 0)) 146)).alloc (.cells (vs (evenL 0)) 146) := ⟨_, rfl⟩
 have HB : Aside0 (Below w.heap.size w W) := ⟨by rw [hW]; exact below_alloc (below_alloc (Below.refl _ _) _) _⟩
 have HA : Aside0 (Arr W (w.heap.size + 1) (fillTo v 0)) := ⟨by
  have := blk_new (w.alloc (.cells (vs (evenL 0)) 146)) (.cells (vs (evenL 0)) 146)
  rw [World.size_alloc] at this
  rw [hW]
  exact this⟩
 have HR : Aside0 (Arr W w.heap.size (evenL 0)) := ⟨by
  have h1 := blk_new w (.cells (vs (evenL 0)) 146)
  rw [hW]
  exact ((below_alloc (Below.refl (w.alloc (.cells (vs (evenL 0)) 146)).heap.size _) _).block _ (by rw [World.size_alloc]; omega)).trans h1⟩
 rw [← hW]
 clear hW hz
 go_loopw [5] (fun u wr => ∃ k : Nat, u = .int .i64 k ∧ k ≤ 128 ∧ Aside0 (Arr wr (w.heap.size + 1) (fillTo v k)) ∧ Aside0 (Arr wr w.heap.size (evenL 0)) ∧ Aside0 (Below w.heap.size w wr)) (fun u _ => 128 - (intOf u).toNat)
 case atStart => exact ⟨0, rfl, Nat.zero_le _, HA, HR, HB⟩
 case round =>
  obtain ⟨k, rfl, hk, HAk, HRk, HBk⟩ := hrel
  by_cases hlt : k < 128
  ·have hkI : (k : Int) < 128 := by omega
   have hc : wr.cell? ⟨w.heap.size + 1, k, none⟩ = some (.int .i64 ((fillTo v k).getD k 0)) := (blk_cell HAk.out k).trans (vs_get _ _ (by rw [fillTo_length v k hk]; exact hlt))
   have hf : wr.frozen? ⟨w.heap.size + 1, k, none⟩ = false := blk_frozen HAk.out k
   have HAn : Aside0 (Arr (wr.setCell ⟨w.heap.size + 1, k, none⟩ (.int .i64 v)) (w.heap.size + 1) (fillTo v (k + 1))) := ⟨by
    have := blk_set HAk.out k (.int .i64 v)
    rw [vs_set, fillTo_succ v k hlt] at this
    exact this⟩
   have HRn : Aside0 (Arr (wr.setCell ⟨w.heap.size + 1, k, none⟩ (.int .i64 v)) w.heap.size (evenL 0)) := ⟨(Below.heap_setCell wr ⟨w.heap.size + 1, k, none⟩ (.int .i64 v) w.heap.size (by show w.heap.size ≠ w.heap.size + 1; omega)).trans HRk.out⟩
   have HBn : Aside0 (Below w.heap.size w (wr.setCell ⟨w.heap.size + 1, k, none⟩ (.int .i64 v))) := ⟨below_cells HBk.out (by omega) k [.int .i64 v]⟩
   go_wp2_with fail
   exact ⟨⟨k + 1, by go_num, by omega, HAn, HRn, HBn⟩, by simp [intOf]; omega⟩
  ·obtain rfl : k = 128 := by omega
   go_wp2_with (first | (refine arr_load_arm rfl (.tmp 3) rfl rfl HAk.out (fillTo_length v 128 (by omega)) ?_) | (refine arr_store_arm (g := w.heap.size) (ys := fillTo v 128) rfl (.tmp 2) (.tmp 12) rfl rfl rfl rfl HRk.out (evenL_length 0) (fillTo_length v 128 (by omega)) ?_; intro w1 h1 h2 h3; have H1 := Aside0.mk h1; have H2 := Aside0.mk (below_grown2 HBk.out (Nat.le_refl _) h2 (fun k hk => by injection hk with hk; omega)); clear h1 h2 h3))
   refine bodyPost_ret (results_cell_row rfl _ _ w.heap.size 146 (vs (fillTo v 128)) (0, 0) _ rfl H1.out Tryz.underlying146 rfl (by rw [info122, vs_size, fillTo_length v 128 (by omega)])) rfl ?_
   exact ⟨by simp [fillTo, evenL], H2.out⟩
theorem range_at {w : World} {A : Option Addr} {c : Nat} {l : List S127} (h : SLk k127 w (.slice A l.length c) l) (k : Nat) (hk : k < l.length) : ∃ ad, A = some ad ∧ w.cell? (ad.add (k * 3)) = some (.int .i64 l[k].f0) ∧ w.cell? ⟨(ad.add (k * 3)).block, (ad.add (k * 3)).off + 1, none⟩ = some (.int .i64 l[k].f1) ∧ w.cell? ⟨(ad.add (k * 3)).block, (ad.add (k * 3)).off + 2, none⟩ = some (.int .i64 l[k].f2) := by
 obtain ⟨A', c', e, _, hC⟩ := h
 injection e with e1 e2 e3
 subst e1
 obtain ⟨ad, e, h1, h2, h3⟩ := at_T127 hC (k : Int) (by omega) (by omega)
 have hg : rd_T127 l (k : Int) = l[k] := by
  show l.getD k z127 = _
  rw [List.getD_eq_getElem?_getD, List.getElem?_eq_getElem hk]; rfl
 rw [Int.toNat_natCast, hg] at h1 h2 h3
 exact ⟨ad, e, h1, h2, h3⟩
attribute [local go_sem] max2_int min2_int max_two min_two max_three min_three max_four min_four
set_option maxRecDepth 100000 in
set_option maxHeartbeats 4000000 in
theorem filled_c {w : World} {A : Option Addr} {c : Nat} {l : List S127} (n : Int) (p fr : Nat) (h : SLk k127 w (.slice A l.length c) l) (ok : Ok l) (hm : l.length ≤ 4096) (hp : p < 8704) (hf : fr ≤ l.length) (hbef : ∀ (i : Nat) (hi : i < l.length), i < fr → l[i].f1 < 128 * (p : Int)) :
 Calls Tryz.prog 112 #[.slice A l.length c, .int .i64 p, .int .i64 fr, .int .i64 n] w fun e w' => ∃ k : Nat, k ≤ l.length ∧ (∀ (i : Nat) (hi : i < l.length), i < k → l[i].f1 < 128 * ((p + 1 : Nat) : Int)) ∧ e = .returned (.tuple #[.agg (vs (blockL l n p)), .int .i64 k]) ∧ Below w.heap.size w w' := by
 have H := Aside0.mk h
 have HOK := Aside0.mk ok
 have HBE := Aside0.mk hbef
 have HM := Aside0.mk hm
 clear h ok hbef
 have hz : Tryz.zeroCells146 = vs (evenL 0) := by kernel_rfl
 have HZ := Aside0.mk hz; clear hz
 go_enter Tryz.func112, Tryz.ntmps112
 go_wp2_with fail
 refine (even_c n _).mono ?_
 rintro e w1 ⟨rfl, hb⟩
 rw [HZ.out] at hb
 have D := blk_new w (.cells (vs (evenL 0)) 146)
 have HZ1 : Aside0 (Arr w1 w.heap.size (evenL 0)) := ⟨(hb.block _ (blk_lt D)).trans D⟩
 have HB1 := Aside0.mk (below_step (below_alloc (Below.refl w.heap.size w) _) hb)
 clear hb D
 have D2 := blk_new w1 (.cells (vs (evenL 0)) 146)
 have HA2 := Aside0.mk D2
 have HZ2 : Aside0 (Arr (w1.alloc (.cells (vs (evenL 0)) 146)) w.heap.size (evenL 0)) := ⟨((below_alloc (Below.refl w1.heap.size w1) _).block _ (blk_lt HZ1.out)).trans HZ1.out⟩
 have HB2 := Aside0.mk (below_alloc HB1.out (.cells (vs (evenL 0)) 146))
 clear D2
 go_wp2_with (first | (rw [HZ.out]; refine arr_store_arm (g := w1.heap.size) (ys := evenL n) rfl (.tmp 10) (.tmp 15) rfl rfl rfl rfl HA2.out (evenL_length 0) (evenL_length n) ?_; intro w3 h1 h2 h3; have HA3 := Aside0.mk h1; have HB3 := Aside0.mk (below_grown2 HB2.out (Nat.le_refl _) h2 (fun k hk => by injection hk with hk; have := HB1.out.size; omega)); have HZ3 : Aside0 (Arr w3 w.heap.size (evenL 0)) := ⟨(h2.block _ (blk_lt HZ2.out) (fun e => by injection e with e; have := blk_lt HZ1.out; omega)).trans HZ2.out⟩; clear h1 h2 h3))
 have HG : Aside0 (w.heap.size < w1.heap.size) := ⟨blk_lt HZ1.out⟩
 obtain ⟨g, hg⟩ : ∃ g, g = w1.heap.size := ⟨_, rfl⟩
 rw [← hg] at HA3 HG ⊢
 have HA4 : Aside0 (Arr w3 g (partL l n p fr)) := ⟨by rw [partL_start l n p fr HBE.out]; exact HA3.out⟩
 have HBE2 : Aside0 (∀ (i : Nat) (hi : i < l.length), i < fr → l[i].f1 < 128 * ((p + 1 : Nat) : Int)) := ⟨fun i hi hk => by have := HBE.out i hi hk; omega⟩
 clear hg HA2 HZ2 HB2 HZ1 HB1 HA3
 go_loopw [2] (fun v wr => ∃ k : Nat, v = .int .i64 k ∧ k ≤ l.length ∧ Aside0 (∀ (i : Nat) (hi : i < l.length), i < k → l[i].f1 < 128 * ((p + 1 : Nat) : Int)) ∧ Aside0 (Arr wr g (partL l n p k)) ∧ Aside0 (Arr wr w.heap.size (evenL 0)) ∧ Aside0 (Below w.heap.size w wr)) (fun v _ => l.length - (intOf v).toNat)
 case atStart => exact ⟨fr, rfl, hf, HBE2, HA4, HZ3, HB3⟩
 case round =>
  obtain ⟨k, rfl, hk, HBk, HA, HZx, HB⟩ := hrel
  by_cases hlt : k < l.length
  ·have hkI : (k : Int) < (l.length : Int) := by omega
   obtain ⟨ad, ea, g1, g2, g3⟩ := range_at (SLk.below H.out HB.out) k hlt
   subst ea
   obtain ⟨F, hF1, hF2, hF3, hF4⟩ := round_facts l HOK.out n p k hlt
   have hri := HOK.out.right _ (List.getElem_mem hlt)
   have hlb : ∀ (i : Nat) (hi : i < l.length), k < i → l[k].f1 < l[i].f0 := fun i hi h => lo_behind l HOK.out k i hlt hi h
   have hlf : ∀ (i : Nat) (hi : i < l.length), k ≤ i → l[k].f0 ≤ l[i].f0 := fun i hi h => lo_from l HOK.out k i hlt hi h
   have hpi : l[k].f1 < 128 * ((p + 1 : Nat) : Int) → ∀ (i : Nat) (hi : i < l.length), i < k + 1 → l[i].f1 < 128 * ((p + 1 : Nat) : Int) := fun h1 i hi hik => by
    by_cases e : i = k
    ·subst e; exact h1
    ·exact HBk.out i hi (by omega)
   generalize l[k].f0 = x0 at *
   generalize l[k].f1 = x1 at *
   generalize l[k].f2 = x2 at *
   have HF1 := Aside0.mk hF1
   have HF2 := Aside0.mk hF2
   have HF3 := Aside0.mk hF3
   have HF4 := Aside0.mk hF4
   have HLB := Aside0.mk hlb
   have HLF := Aside0.mk hlf
   have HPI := Aside0.mk hpi
   have HRI := Aside0.mk hri
   clear hF1 hF2 hF3 hF4 hlb hlf hpi hri
   by_cases hin : x0 < (p : Int) * 128 + 128
   ·have hin1 : decide (x0 < (p : Int) * 128 + 128) = true := decide_eq_true hin
    have HIN := Aside0.mk hin; clear hin
    have D := blk_new wr (.cells #[.int .i64 x0, .int .i64 x1, .int .i64 x2] 151)
    have HD := Aside0.mk D
    have HBa := Aside0.mk (below_alloc HB.out (.cells #[.int .i64 x0, .int .i64 x1, .int .i64 x2] 151))
    have HAa : Aside0 (Arr (wr.alloc (.cells #[.int .i64 x0, .int .i64 x1, .int .i64 x2] 151)) g (partL l n p k)) := ⟨((below_alloc (Below.refl wr.heap.size wr) _).block _ (blk_lt HA.out)).trans HA.out⟩
    have HZa : Aside0 (Arr (wr.alloc (.cells #[.int .i64 x0, .int .i64 x1, .int .i64 x2] 151)) w.heap.size (evenL 0)) := ⟨((below_alloc (Below.refl wr.heap.size wr) _).block _ (blk_lt HZx.out)).trans HZx.out⟩
    have c0 : (wr.alloc (.cells #[.int .i64 x0, .int .i64 x1, .int .i64 x2] 151)).cell? ⟨wr.heap.size, 0, none⟩ = some (.int .i64 x0) := (blk_cell D 0).trans rfl
    have c1 : (wr.alloc (.cells #[.int .i64 x0, .int .i64 x1, .int .i64 x2] 151)).cell? ⟨wr.heap.size, 1, none⟩ = some (.int .i64 x1) := (blk_cell D 1).trans rfl
    have HGL : Aside0 (g < wr.heap.size) := ⟨blk_lt HA.out⟩
    clear D
    by_cases hmx : (p : Int) * 128 ≤ x0
    ·go_wp2_with fail
     obtain ⟨W0, hW0⟩ : ∃ W0, W0 = wr := ⟨_, rfl⟩
     subst hW0
     go_loopw [13] (fun v wx => ∃ d : Int, v = .int .i64 d ∧ x0 ≤ d ∧ (d ≤ x1 + 1 ∨ d ≤ (p : Int) * 128) ∧ d ≤ (p : Int) * 128 + 128 ∧ Aside0 (Arr wx g (F d)) ∧ Aside0 (Arr wx w.heap.size (evenL 0)) ∧ Aside0 (Below w.heap.size w wx) ∧ Aside0 (wx.heap[W0.heap.size]? = some (.cells #[.int .i64 x0, .int .i64 x1, .int .i64 x2] 151 (0, 0)))) (fun v _ => ((p : Int) * 128 + 128 - intOf v).toNat)
     case atStart => exact ⟨x0, rfl, Int.le_refl _, (by have := HRI.out; omega), (by have := HIN.out; omega), ⟨by rw [HF1.out x0 (by omega)]; exact HAa.out⟩, HZa, HBa, HD⟩
     case round =>
      obtain ⟨d, rfl, hd1, hd2, hd3, HAd, HZd, HBd, HDd⟩ := hrel
      have r1 : wr.cell? ⟨W0.heap.size, 1, none⟩ = some (.int .i64 x1) := (blk_cell HDd.out 1).trans rfl
      have r2 : wr.cell? ⟨W0.heap.size, 2, none⟩ = some (.int .i64 x2) := (blk_cell HDd.out 2).trans rfl
      have hp0 : (p : Int) < 8704 := by omega
      by_cases hgo : d ≤ x1 ∧ d < (p : Int) * 128 + 128
      ·obtain ⟨hg1, hg2⟩ := hgo
       have b1 : 0 ≤ d - (p : Int) * 128 := by omega
       have b2 : d - (p : Int) * 128 < 128 := by omega
       have b3 : (p : Int) * 128 ≤ d := by omega
       have hl4 := HF4.out d
       have hc : wr.cell? ⟨g, (d - (p : Int) * 128).toNat, none⟩ = some (.int .i64 ((F d).getD (d - (p : Int) * 128).toNat 0)) := (blk_cell HAd.out _).trans (vs_get _ _ (by omega))
       have hfz : wr.frozen? ⟨g, (d - (p : Int) * 128).toNat, none⟩ = false := blk_frozen HAd.out _
       have HAn : Aside0 (Arr (wr.setCell ⟨g, (d - (p : Int) * 128).toNat, none⟩ (.int .i64 x2)) g (F (d + 1))) := ⟨by
        have := blk_set HAd.out (d - (p : Int) * 128).toNat (.int .i64 x2)
        rw [vs_set, HF2.out d (by omega) b3 hg2] at this
        exact this⟩
       have HZn : Aside0 (Arr (wr.setCell ⟨g, (d - (p : Int) * 128).toNat, none⟩ (.int .i64 x2)) w.heap.size (evenL 0)) := ⟨(Below.heap_setCell wr ⟨g, (d - (p : Int) * 128).toNat, none⟩ (.int .i64 x2) w.heap.size (by have := HG.out; show w.heap.size ≠ g; omega)).trans HZd.out⟩
       have HDn : Aside0 ((wr.setCell ⟨g, (d - (p : Int) * 128).toNat, none⟩ (.int .i64 x2)).heap[W0.heap.size]? = some (.cells #[.int .i64 x0, .int .i64 x1, .int .i64 x2] 151 (0, 0))) := ⟨(Below.heap_setCell wr ⟨g, (d - (p : Int) * 128).toNat, none⟩ (.int .i64 x2) W0.heap.size (by have := HGL.out; show W0.heap.size ≠ g; omega)).trans HDd.out⟩
       have HBn : Aside0 (Below w.heap.size w (wr.setCell ⟨g, (d - (p : Int) * 128).toNat, none⟩ (.int .i64 x2))) := ⟨below_cells HBd.out (by have := HG.out; omega) _ [.int .i64 x2]⟩
       by_cases hmn : x1 ≤ (p : Int) * 128 + 128 - 1
       ·go_wp2_with fail
        exact ⟨⟨d + 1, by go_num, by omega, by omega, by omega, HAn, HZn, HBn, HDn⟩, by simp [intOf]; omega⟩
       ·have hmn2 : (p : Int) * 128 + 128 - 1 < x1 := by omega
        have hmn3 : d ≤ (p : Int) * 128 + 128 - 1 := by omega
        go_wp2_with fail
        exact ⟨⟨d + 1, by go_num, by omega, by omega, by omega, HAn, HZn, HBn, HDn⟩, by simp [intOf]; omega⟩
      ·have HAe : Aside0 (Arr wr g (partL l n p (k + 1))) := ⟨by rw [← HF3.out d (by omega) (by omega)]; exact HAd.out⟩
       by_cases hmn : x1 ≤ (p : Int) * 128 + 128 - 1
       ·have hno : ¬ (d ≤ x1) := by omega
        have hbr : ¬ ((p : Int) * 128 + 128 ≤ x1) := by omega
        go_wp2_with fail
        exact ⟨⟨k + 1, by go_num, by omega, ⟨HPI.out (by omega)⟩, HAe, HZd, HBd⟩, by simp [intOf]; omega⟩
       ·have hmn2 : (p : Int) * 128 + 128 - 1 < x1 := by omega
        have hno : ¬ (d ≤ (p : Int) * 128 + 128 - 1) := by omega
        have hbr : (p : Int) * 128 + 128 ≤ x1 := by omega
        have HAb : Aside0 (Arr wr g (blockL l n p)) := ⟨by rw [← partL_end l n p (k + 1) (fun i hi h => by have := HLB.out i hi (by omega); omega)]; exact HAe.out⟩
        have HB := HBd
        have HZx := HZd
        go_wp2_with (first | (refine arr_load_arm rfl (.tmp 10) rfl rfl HAb.out (blockL_length l n p) ?_) | (refine arr_store_arm (g := w.heap.size) (ys := blockL l n p) rfl (.tmp 8) (.tmp 63) rfl rfl rfl rfl HZx.out (evenL_length 0) (blockL_length l n p) ?_; intro w9 h1 h2 h3; have H1 := Aside0.mk h1; have H2 := Aside0.mk (below_grown2 HB.out (Nat.le_refl _) h2 (fun k hk => by injection hk with hk; omega)); clear h1 h2 h3))
        refine bodyPost_ret (results_ct rfl _ _ w.heap.size 146 (vs (blockL l n p)) (0, 0) _ rfl H1.out Tryz.underlying146 rfl (by rw [info122, vs_size, blockL_length])) rfl ?_
        exact ⟨k, hk, HBk.out, rfl, H2.out⟩
    ·have hmx2 : x0 < (p : Int) * 128 := by omega
     go_wp2_with fail
     obtain ⟨W0, hW0⟩ : ∃ W0, W0 = wr := ⟨_, rfl⟩
     subst hW0
     go_loopw [13] (fun v wx => ∃ d : Int, v = .int .i64 d ∧ ((p : Int) * 128) ≤ d ∧ (d ≤ x1 + 1 ∨ d ≤ (p : Int) * 128) ∧ d ≤ (p : Int) * 128 + 128 ∧ Aside0 (Arr wx g (F d)) ∧ Aside0 (Arr wx w.heap.size (evenL 0)) ∧ Aside0 (Below w.heap.size w wx) ∧ Aside0 (wx.heap[W0.heap.size]? = some (.cells #[.int .i64 x0, .int .i64 x1, .int .i64 x2] 151 (0, 0)))) (fun v _ => ((p : Int) * 128 + 128 - intOf v).toNat)
     case atStart => exact ⟨((p : Int) * 128), rfl, Int.le_refl _, (by have := HRI.out; omega), (by have := HIN.out; omega), ⟨by rw [HF1.out ((p : Int) * 128) (by omega)]; exact HAa.out⟩, HZa, HBa, HD⟩
     case round =>
      obtain ⟨d, rfl, hd1, hd2, hd3, HAd, HZd, HBd, HDd⟩ := hrel
      have r1 : wr.cell? ⟨W0.heap.size, 1, none⟩ = some (.int .i64 x1) := (blk_cell HDd.out 1).trans rfl
      have r2 : wr.cell? ⟨W0.heap.size, 2, none⟩ = some (.int .i64 x2) := (blk_cell HDd.out 2).trans rfl
      have hp0 : (p : Int) < 8704 := by omega
      by_cases hgo : d ≤ x1 ∧ d < (p : Int) * 128 + 128
      ·obtain ⟨hg1, hg2⟩ := hgo
       have b1 : 0 ≤ d - (p : Int) * 128 := by omega
       have b2 : d - (p : Int) * 128 < 128 := by omega
       have b3 : (p : Int) * 128 ≤ d := by omega
       have hl4 := HF4.out d
       have hc : wr.cell? ⟨g, (d - (p : Int) * 128).toNat, none⟩ = some (.int .i64 ((F d).getD (d - (p : Int) * 128).toNat 0)) := (blk_cell HAd.out _).trans (vs_get _ _ (by omega))
       have hfz : wr.frozen? ⟨g, (d - (p : Int) * 128).toNat, none⟩ = false := blk_frozen HAd.out _
       have HAn : Aside0 (Arr (wr.setCell ⟨g, (d - (p : Int) * 128).toNat, none⟩ (.int .i64 x2)) g (F (d + 1))) := ⟨by
        have := blk_set HAd.out (d - (p : Int) * 128).toNat (.int .i64 x2)
        rw [vs_set, HF2.out d (by omega) b3 hg2] at this
        exact this⟩
       have HZn : Aside0 (Arr (wr.setCell ⟨g, (d - (p : Int) * 128).toNat, none⟩ (.int .i64 x2)) w.heap.size (evenL 0)) := ⟨(Below.heap_setCell wr ⟨g, (d - (p : Int) * 128).toNat, none⟩ (.int .i64 x2) w.heap.size (by have := HG.out; show w.heap.size ≠ g; omega)).trans HZd.out⟩
       have HDn : Aside0 ((wr.setCell ⟨g, (d - (p : Int) * 128).toNat, none⟩ (.int .i64 x2)).heap[W0.heap.size]? = some (.cells #[.int .i64 x0, .int .i64 x1, .int .i64 x2] 151 (0, 0))) := ⟨(Below.heap_setCell wr ⟨g, (d - (p : Int) * 128).toNat, none⟩ (.int .i64 x2) W0.heap.size (by have := HGL.out; show W0.heap.size ≠ g; omega)).trans HDd.out⟩
       have HBn : Aside0 (Below w.heap.size w (wr.setCell ⟨g, (d - (p : Int) * 128).toNat, none⟩ (.int .i64 x2))) := ⟨below_cells HBd.out (by have := HG.out; omega) _ [.int .i64 x2]⟩
       by_cases hmn : x1 ≤ (p : Int) * 128 + 128 - 1
       ·go_wp2_with fail
        exact ⟨⟨d + 1, by go_num, by omega, by omega, by omega, HAn, HZn, HBn, HDn⟩, by simp [intOf]; omega⟩
       ·have hmn2 : (p : Int) * 128 + 128 - 1 < x1 := by omega
        have hmn3 : d ≤ (p : Int) * 128 + 128 - 1 := by omega
        go_wp2_with fail
        exact ⟨⟨d + 1, by go_num, by omega, by omega, by omega, HAn, HZn, HBn, HDn⟩, by simp [intOf]; omega⟩
      ·have HAe : Aside0 (Arr wr g (partL l n p (k + 1))) := ⟨by rw [← HF3.out d (by omega) (by omega)]; exact HAd.out⟩
       by_cases hmn : x1 ≤ (p : Int) * 128 + 128 - 1
       ·have hno : ¬ (d ≤ x1) := by omega
        have hbr : ¬ ((p : Int) * 128 + 128 ≤ x1) := by omega
        go_wp2_with fail
        exact ⟨⟨k + 1, by go_num, by omega, ⟨HPI.out (by omega)⟩, HAe, HZd, HBd⟩, by simp [intOf]; omega⟩
       ·have hmn2 : (p : Int) * 128 + 128 - 1 < x1 := by omega
        have hno : ¬ (d ≤ (p : Int) * 128 + 128 - 1) := by omega
        have hbr : (p : Int) * 128 + 128 ≤ x1 := by omega
        have HAb : Aside0 (Arr wr g (blockL l n p)) := ⟨by rw [← partL_end l n p (k + 1) (fun i hi h => by have := HLB.out i hi (by omega); omega)]; exact HAe.out⟩
        have HB := HBd
        have HZx := HZd
        go_wp2_with (first | (refine arr_load_arm rfl (.tmp 10) rfl rfl HAb.out (blockL_length l n p) ?_) | (refine arr_store_arm (g := w.heap.size) (ys := blockL l n p) rfl (.tmp 8) (.tmp 63) rfl rfl rfl rfl HZx.out (evenL_length 0) (blockL_length l n p) ?_; intro w9 h1 h2 h3; have H1 := Aside0.mk h1; have H2 := Aside0.mk (below_grown2 HB.out (Nat.le_refl _) h2 (fun k hk => by injection hk with hk; omega)); clear h1 h2 h3))
        refine bodyPost_ret (results_ct rfl _ _ w.heap.size 146 (vs (blockL l n p)) (0, 0) _ rfl H1.out Tryz.underlying146 rfl (by rw [info122, vs_size, blockL_length])) rfl ?_
        exact ⟨k, hk, HBk.out, rfl, H2.out⟩
   ·have hin1 : decide (x0 < (p : Int) * 128 + 128) = false := decide_eq_false hin
    have HAb : Aside0 (Arr wr g (blockL l n p)) := ⟨by rw [← partL_end l n p k (fun i hi h => by have := HLF.out i hi h; omega)]; exact HA.out⟩
    clear hin
    go_wp2_with (first | (refine arr_load_arm rfl (.tmp 10) rfl rfl HAb.out (blockL_length l n p) ?_) | (refine arr_store_arm (g := w.heap.size) (ys := blockL l n p) rfl (.tmp 8) (.tmp 63) rfl rfl rfl rfl HZx.out (evenL_length 0) (blockL_length l n p) ?_; intro w9 h1 h2 h3; have H1 := Aside0.mk h1; have H2 := Aside0.mk (below_grown2 HB.out (Nat.le_refl _) h2 (fun k hk => by injection hk with hk; omega)); clear h1 h2 h3))
    refine bodyPost_ret (results_ct rfl _ _ w.heap.size 146 (vs (blockL l n p)) (0, 0) _ rfl H1.out Tryz.underlying146 rfl (by rw [info122, vs_size, blockL_length])) rfl ?_
    exact ⟨k, hk, HBk.out, rfl, H2.out⟩
  ·have hkI : ¬ ((k : Int) < (l.length : Int)) := by omega
   have HAb : Aside0 (Arr wr g (blockL l n p)) := ⟨by rw [← partL_end l n p k (fun i hi h => by omega)]; exact HA.out⟩
   go_wp2_with (first | (refine arr_load_arm rfl (.tmp 10) rfl rfl HAb.out (blockL_length l n p) ?_) | (refine arr_store_arm (g := w.heap.size) (ys := blockL l n p) rfl (.tmp 8) (.tmp 63) rfl rfl rfl rfl HZx.out (evenL_length 0) (blockL_length l n p) ?_; intro w9 h1 h2 h3; have H1 := Aside0.mk h1; have H2 := Aside0.mk (below_grown2 HB.out (Nat.le_refl _) h2 (fun k hk => by injection hk with hk; omega)); clear h1 h2 h3))
   refine bodyPost_ret (results_ct rfl _ _ w.heap.size 146 (vs (blockL l n p)) (0, 0) _ rfl H1.out Tryz.underlying146 rfl (by rw [info122, vs_size, blockL_length])) rfl ?_
   exact ⟨k, hk, HBk.out, rfl, H2.out⟩
end Go.Proofs.YtemhccjjcioodaaGreat.CTrie
end
section
namespace Go.Proofs.YtemhccjjcioodaaGreat.CTrie
open Go.RowKit Go.Proofs.YtemhccjjcioodaaGreatW.PrintWords Go.Proofs.YtemhccjjcioodaaGreatW.PrintMore Go.Proofs.YtemhccjjcioodaaGreatW.PrintLast Go.Proofs.YtemhccjjcioodaaGreat.U Go.Proofs.YtemhccjjcioodaaGreat.UTrie Go.Proofs.YtemhccjjcioodaaGreat.PEmbedJoins
theorem all_range_eq : ∀ (xs ys : List Int), xs.length = ys.length → ((List.range xs.length).all fun i => xs.getD i 0 == ys.getD i 0) = (xs == ys)
 | [], [], _ => rfl
 | x :: xs, y :: ys, h => by
  have ih := all_range_eq xs ys (by simpa using h)
  rw [List.length_cons, List.range_succ_eq_map, List.all_cons, List.all_map]
  simp only [List.getD_cons_zero, Function.comp_def, List.getD_cons_succ, ih]
  simp [List.cons_beq_cons]
 | [], _ :: _, h => by simp at h
 | _ :: _, [], h => by simp at h
theorem run_equalIn_ints (w : World) (d : Nat) (xs ys : List Int) (hx : xs.length = 128) (hy : ys.length = 128) :
 (Op.equalIn (d + 2) 146 (.agg (vs xs)) (.agg (vs ys))).run Tryz.prog w = .ok (xs == ys) w := by
 have hsz : ∀ w, (sizeOf 3).run Tryz.prog w = .ok 1 w := Tryz.sizeOf3
 rw [← all_range_eq xs ys (hx.trans hy.symm), hx, List.range_eq_range', Op.equalIn]
 simp only [Sem.run_bind, run_underlying Tryz.underlying146, Result.andThen_ok, hsz, Std.Legacy.Range.forIn_eq_forIn_range', Std.Legacy.Range.size, Nat.sub_zero, Nat.add_sub_cancel, Nat.div_one]
 have hl : ∀ i ∈ List.range' 0 128 1, i < 128 := fun i hi => by simpa using (List.mem_range'_1.1 hi).2
 generalize List.range' 0 128 1 = l at hl ⊢
 induction l with
 | nil => simp
 | cons i l ih =>
  have hi : i < 128 := hl i (by simp)
  have px : (part 3 (vs xs) (i * 1)).run Tryz.prog w = .ok (.int .i64 (xs.getD i 0)) w := by
   simp [part, isAgg, run_underlying Tryz.underlying3, vs, List.getD, List.getElem?_eq_getElem (show i < xs.length by omega)]
  have py : (part 3 (vs ys) (i * 1)).run Tryz.prog w = .ok (.int .i64 (ys.getD i 0)) w := by
   simp [part, isAgg, run_underlying Tryz.underlying3, vs, List.getD, List.getElem?_eq_getElem (show i < ys.length by omega)]
  have pe : (Op.equalIn (d + 1) 3 (.int .i64 (xs.getD i 0)) (.int .i64 (ys.getD i 0))).run Tryz.prog w = .ok (xs.getD i 0 == ys.getD i 0) w := by
   rw [run_equalIn_int w d 3 .i64 .i64 _ _ Tryz.underlying3]
  simp only [List.forIn_cons, Sem.run_bind, px, py, pe, Result.andThen_ok, List.all_cons]
  cases hb : (xs.getD i 0 == ys.getD i 0)
  ·simp
  ·simp only [Bool.not_true, Bool.false_eq_true, if_false, Sem.run_pure, Result.andThen_ok, Bool.true_and]
   exact ih fun j hj => hl j (by simp [hj])
theorem run_eql_vs (w : World) (xs ys : List Int) (hx : xs.length = 128) (hy : ys.length = 128) : (binOp .eql 146 (.agg (vs xs)) (.agg (vs ys))).run Tryz.prog w = .ok (.bool (xs == ys)) w := by
 rw [run_eql_struct, run_equalIn_ints w 9998 xs ys hx hy]
 rfl
theorem guard122 : Tryz.prog.eqGuardType Tryz.prog.depth 146 = false := by kernel_rfl
theorem exec_eql {o : Oper} {a : Act} (w : World) (x y : Operand) (t : TypeId) (ho : o.op = .binOp .eql 146 x y t) {xs ys : List Int} (hx : a.eval x = .agg (vs xs)) (hy : a.eval y = .agg (vs ys)) (hl : xs.length = 128) (hl2 : ys.length = 128) :
 (execOp a.eval o).run Tryz.prog w = .ok (.value (.bool (xs == ys))) w := by
 unfold execOp
 simp [ho, hx, hy, eqGuard, guard122, run_eql_vs w xs ys hl hl2]
theorem load_mid {w : World} {ad : Addr} {xs : List Int} (h : ∀ j v, (vs xs).toList[j]? = some v → w.cell? (ad.add j) = some v) (hl : xs.length = 128) : (loadVar 146 ad).run Tryz.prog w = .ok (.agg (vs xs)) w := by
 have h1 := run_loadCells_list (P := Tryz.prog) w ad (vs xs).toList h
 have hn : (vs xs).toList.length = 128 := by simp [vs, hl]
 rw [hn] at h1
 unfold loadVar
 simp [Tryz.isAgg146, Tryz.sizeOf146, h1]
theorem exec_load {o : Oper} {a : Act} {w : World} (x : Operand) (ho : o.op = .load 146 x) {ad : Addr} (hx : a.eval x = .pointer (some ad)) {xs : List Int} (h : (loadVar 146 ad).run Tryz.prog w = .ok (.agg (vs xs)) w) :
 (execOp a.eval o).run Tryz.prog w = .ok (.value (.agg (vs xs))) w := by
 unfold execOp
 simp [ho, hx, Instr.loadAt, Instr.sureAddr, h]
end Go.Proofs.YtemhccjjcioodaaGreat.CTrie
end
