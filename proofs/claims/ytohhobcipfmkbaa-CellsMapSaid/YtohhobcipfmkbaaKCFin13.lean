/- Texts of this claim, cut to what it needs. -/
import Derived.Test.YtohhobcipfmkbaaKCFinQ
import Derived.Test.YtohhobcipfmkbaaKCCells3
import Derived.StillTailTactics
import Derived.Maps.Own
import Derived.Maps.Views
set_option linter.unusedSimpArgs false
set_option linter.unusedVariables false
section
namespace Go.Proofs.Ytohhobcipfmkbaa.UGroups
open Go.Proofs.Ytohhobcipfmkbaa.PClusterFinest
def OkS (N : Nat) (s : S33) : Prop := 0 ≤ s.f0 ∧ s.f0 < s.f1 ∧ s.f1 ≤ (N : Int)
instance (N : Nat) (s : S33) : Decidable (OkS N s) := by unfold OkS; infer_instance
def acrossB (N : Nat) (J : List S33) (t : Nat) : Bool := J.any fun s => decide (OkS N s) && (decide (s.f0 < (t : Int)) && decide ((t : Int) < s.f1))
theorem across_iff {N : Nat} {J : List S33} {t : Nat} : acrossB N J t = true ↔ ∃ s ∈ J, OkS N s ∧ s.f0 < (t : Int) ∧ (t : Int) < s.f1 := by
 unfold acrossB
 rw [List.any_eq_true]
 simp only [Bool.and_eq_true, decide_eq_true_eq]
def stepG (N : Nat) (J : List S33) (t : Nat) (q : List S33 × Nat) : List S33 × Nat := if t = N ∨ acrossB N J t = false then (q.1 ++ [⟨(q.2 : Int), (t : Int)⟩], t) else q
def grpTo (N : Nat) (J : List S33) : Nat → List S33 × Nat
 | 0 => ([], 0)
 | t + 1 => stepG N J (t + 1) (grpTo N J t)
def groups (N : Nat) (J : List S33) : List S33 := (grpTo N J N).1
theorem grp_len (N : Nat) (J : List S33) (t : Nat) : (grpTo N J t).1.length ≤ t := by
 induction t with
 | zero => exact Nat.le_refl _
 | succ t ih =>
  unfold grpTo stepG
  split
  ·simp; exact ih
  ·omega
structure IsH (N : Nat) (J : List S33) (t : Nat) (h : Int) : Prop where
 ge : (t : Int) ≤ h
 up : ∀ s ∈ J, OkS N s → s.f0 < (t : Int) → s.f1 ≤ h
 is : h = (t : Int) ∨ ∃ s ∈ J, OkS N s ∧ s.f0 < (t : Int) ∧ s.f1 = h
structure IsR (N : Nat) (J : List S33) (i : Nat) (r : Int) : Prop where
 ge : 0 ≤ r
 up : ∀ s ∈ J, OkS N s → s.f0 = (i : Int) → s.f1 ≤ r
 is : r = 0 ∨ ∃ s ∈ J, OkS N s ∧ s.f0 = (i : Int) ∧ s.f1 = r
theorem isH_end {N : Nat} {J : List S33} {t : Nat} {h : Int} (hh : IsH N J t h) : h = (t : Int) ↔ acrossB N J t = false := by
 constructor
 ·intro e
  cases hc : acrossB N J t with
  | false => rfl
  | true =>
   obtain ⟨s, hs, ho, h1, h2⟩ := across_iff.1 hc
   have := hh.up s hs ho h1
   omega
 ·intro hc
  rcases hh.is with e | ⟨s, hs, ho, h1, h2⟩
  ·exact e
  ·have hge := hh.ge
   by_cases hlt : (t : Int) < s.f1
   ·have := across_iff.2 ⟨s, hs, ho, h1, hlt⟩
    rw [hc] at this; cases this
   ·omega
theorem isH_step {N : Nat} {J : List S33} {t : Nat} {h r : Int} (hh : IsH N J t h) (hr : IsR N J t r) : IsH N J (t + 1) (max (max h ((t : Int) + 1)) r) := by
 refine ⟨by omega, fun s hs ho h1 => ?_, ?_⟩
 ·by_cases e : s.f0 = (t : Int)
  ·have := hr.up s hs ho e; omega
  ·have := hh.up s hs ho (by omega); omega
 ·by_cases c1 : r ≤ max h ((t : Int) + 1)
  ·by_cases c2 : h ≤ (t : Int) + 1
   ·exact .inl (by omega)
   ·rcases hh.is with e | ⟨s, hs, ho, h1, h2⟩
    ·omega
    ·exact .inr ⟨s, hs, ho, by omega, by omega⟩
  ·rcases hr.is with e | ⟨s, hs, ho, h1, h2⟩
   ·have := hh.ge; omega
   ·exact .inr ⟨s, hs, ho, by omega, by omega⟩
def Reach (N : Nat) (J : List S33) (l : List Int) : Prop := l.length = N ∧ ∀ i, i < N → IsR N J i (l.getD i 0)
theorem reach_zero (N : Nat) : Reach N [] (List.replicate N 0) := ⟨by simp, fun i hi => ⟨by simp [List.getD_eq_getElem?_getD, List.getElem?_replicate, hi], (fun s hs => by cases hs), .inl (by simp [List.getD_eq_getElem?_getD, List.getElem?_replicate, hi])⟩⟩
theorem reach_no {N : Nat} {J : List S33} {l : List Int} {s : S33} (h : Reach N J l) (hs : ¬ OkS N s) : Reach N (J ++ [s]) l := by
 refine ⟨h.1, fun i hi => ?_⟩
 have := h.2 i hi
 refine ⟨this.ge, fun q hq ho e => ?_, ?_⟩
 ·rcases List.mem_append.1 hq with hq | hq
  ·exact this.up q hq ho e
  ·rw [List.mem_singleton] at hq; subst hq; exact absurd ho hs
 ·exact this.is.imp_right fun ⟨q, hq, hh⟩ => ⟨q, List.mem_append_left _ hq, hh⟩
theorem reach_yes {N : Nat} {J : List S33} {l : List Int} {s : S33} (h : Reach N J l) (hs : OkS N s) : Reach N (J ++ [s]) (l.set s.f0.toNat (max (l.getD s.f0.toNat 0) s.f1)) := by
 have h0 := hs.1; have h1 := hs.2.1; have h2 := hs.2.2
 refine ⟨by rw [List.length_set]; exact h.1, fun i hi => ?_⟩
 have hi' := h.2 i hi
 by_cases e : i = s.f0.toNat
 ·have eg : (l.set s.f0.toNat (max (l.getD s.f0.toNat 0) s.f1)).getD i 0 = max (l.getD i 0) s.f1 := by
   rw [← e, List.getD_eq_getElem?_getD, List.getElem?_set_self (by rw [h.1]; exact hi)]; rfl
  rw [eg]
  refine ⟨by have := hi'.ge; omega, fun q hq ho eq => ?_, ?_⟩
  ·rcases List.mem_append.1 hq with hq | hq
   ·have := hi'.up q hq ho eq; omega
   ·rw [List.mem_singleton] at hq; subst hq; omega
  ·by_cases hc : l.getD i 0 ≤ s.f1
   ·exact .inr ⟨s, List.mem_append_right _ (List.mem_singleton.2 rfl), hs, by omega, by omega⟩
   ·rcases hi'.is with e0 | ⟨q, hq, ho, e1, e2⟩
    ·omega
    ·exact .inr ⟨q, List.mem_append_left _ hq, ho, e1, by omega⟩
 ·have eg : (l.set s.f0.toNat (max (l.getD s.f0.toNat 0) s.f1)).getD i 0 = l.getD i 0 := by
   rw [List.getD_eq_getElem?_getD, List.getElem?_set_ne (fun h => e h.symm), ← List.getD_eq_getElem?_getD]
  rw [eg]
  refine ⟨hi'.ge, fun q hq ho eq => ?_, hi'.is.imp_right fun ⟨q, hq, hh⟩ => ⟨q, List.mem_append_left _ hq, hh⟩⟩
  rcases List.mem_append.1 hq with hq | hq
  ·exact hi'.up q hq ho eq
  ·rw [List.mem_singleton] at hq; subst hq; omega
theorem isH_one {N : Nat} {J : List S33} {r : Int} (hr : IsR N J 0 r) : IsH N J 1 (max 1 r) := by
 refine ⟨by omega, fun s hs ho h1 => ?_, ?_⟩
 ·have := ho.1
  have := hr.up s hs ho (by omega); omega
 ·by_cases c : r ≤ 1
  ·exact .inl (by omega)
  ·rcases hr.is with e | ⟨s, hs, ho, h1, h2⟩
   ·omega
   ·exact .inr ⟨s, hs, ho, by omega, by omega⟩
theorem isH_last {N : Nat} {J : List S33} {h : Int} (hh : IsH N J N h) : h = (N : Int) := by
 rcases hh.is with e | ⟨s, hs, ho, h1, h2⟩
 ·exact e
 ·have := ho.2.2; have := hh.ge; omega
theorem grp_lo (N : Nat) (J : List S33) (t : Nat) (ht : t ≤ N) : (grpTo N J t).2 ≤ t := by
 induction t with
 | zero => exact Nat.le_refl _
 | succ t ih =>
  unfold grpTo stepG
  split
  ·exact Nat.le_refl _
  ·have := ih (by omega); omega
end Go.Proofs.Ytohhobcipfmkbaa.UGroups
end
section
namespace Go.Proofs.Ytohhobcipfmkbaa.CFin
open Go.RowKit Go.Proofs.YtohhobcipfmkbaaW.PrintWords Go.Proofs.YtohhobcipfmkbaaW.PrintMore Go.Proofs.YtohhobcipfmkbaaW.PrintLast Go.Proofs.Ytohhobcipfmkbaa.U Go.Proofs.Ytohhobcipfmkbaa.PClusterFinest Go.Proofs.Ytohhobcipfmkbaa.UFinest Go.Proofs.Ytohhobcipfmkbaa.UFinEv
attribute [local go_sem] max2_int min2_int max_two min_two
set_option maxRecDepth 100000 in
set_option maxHeartbeats 1000000 in
theorem find_c {w : World} {base g N cap : Nat} {p : List Int} {r : Lab} (h : LI w base g N cap p) (hp : PF N r p) (hN : N ≤ 1000000) (i : Nat) (hi : i < N) :
 Calls Try.prog 86 #[.slice (some ⟨g, 0, none⟩) N cap, .int .i64 i] w fun e w' => ∃ p', e = .returned (.int .i64 (r i : Nat)) ∧ LI w' base g N cap p' ∧ PF N r p' ∧ w.grownBy w' (some g) := by
 have HV := Aside0.mk h
 have HP := Aside0.mk hp
 clear h hp
 go_enter Try.func86, Try.ntmps86
 go_wp2_with fail
 go_loopw [1] (fun v wr => ∃ (j : Nat) (p : List Int), v = .int .i64 j ∧ j < N ∧ Aside0 (r j = r i) ∧ Aside0 (LI wr base g N cap p) ∧ Aside0 (PF N r p) ∧ Aside0 (w.grownBy wr (some g))) (fun v _ => (intOf v).toNat)
 case atStart => exact ⟨i, p, rfl, hi, ⟨rfl⟩, HV, HP, ⟨World.grownBy.refl _ _⟩⟩
 case round =>
  clear HV HP
  obtain ⟨j, p, rfl, hj, HRR, HV, HP, HG⟩ := hrel
  have hjN : (j : Int) < (N : Int) := by omega
  by_cases hr : p.getD j 0 = (j : Int)
  ·obtain ⟨hc, hf⟩ := HV.out.cell j hj
   rw [hr] at hc
   have HRT := Aside0.mk (HP.out.root hj hr)
   clear hr
   go_wp2_with fail
   go_ret
   have hri : r i = j := HRR.out.symm.trans HRT.out
   exact ⟨p, by rw [hri]; rfl, HV.out, HP.out, HG.out⟩
  ·obtain ⟨q, hq, hlt, hqr⟩ := HP.out.up hj hr
   obtain ⟨q2, hq2, hle2, hqr2, _⟩ := HP.out q (by omega)
   obtain ⟨hc, hf⟩ := HV.out.cell j hj
   obtain ⟨hc2, hf2⟩ := HV.out.cell q (by omega)
   rw [hq] at hc
   rw [hq2] at hc2
   have HH := Aside0.mk (HP.out.half HV.out.len.symm hj hq hq2)
   have HP2 := Aside0.mk (HV.out.put j (q2 : Int))
   have HR2 := Aside0.mk (hqr2.trans hqr)
   have hne : ¬ (q : Int) = (j : Int) := by omega
   have hqN : (q : Int) < (N : Int) := by omega
   clear hr hq hq2 hqr hqr2 HV HP
   go_wp2_with fail
   exact ⟨⟨q2, _, rfl, by omega, ⟨HR2.out.trans HRR.out⟩, HP2, HH, ⟨World.grownBy.trans HG.out (grown_set _ _ _ _)⟩⟩, by simp [intOf]; omega⟩
theorem LI.grown {w w' : World} {base g n cap g' : Nat} {xs : List Int} (h : LI w base g n cap xs) (hg : w.grownBy w' (some g')) (hne : g ≠ g') : LI w' base g n cap xs :=
 Kd.R_grown h hg (fun k hk e => hne (by rw [← hk]; exact Option.some.inj e))
set_option maxRecDepth 100000 in
set_option maxHeartbeats 1000000 in
theorem join_c {w : World} {base g N cap : Nat} {p : List Int} {r : Lab} (h : LI w base g N cap p) (hp : PF N r p) (ho : LabOk N r) (hN : N ≤ 1000000) (a b : Nat) (ha : a < N) (hb : b < N) :
 Calls Try.prog 84 #[.slice (some ⟨g, 0, none⟩) N cap, .int .i64 a, .int .i64 b] w fun e w' => ∃ p', e = .returned (.bool (two r a b)) ∧ LI w' base g N cap p' ∧ PF N (merge r a b) p' ∧ w.grownBy w' (some g) := by
 have HV := Aside0.mk h
 have HP := Aside0.mk hp
 clear h hp
 have h1 := ho.le a ha
 have h2 := ho.le b hb
 have HO := Aside0.mk ho; clear ho
 go_enter Try.func84, Try.ntmps84
 by_cases hab : r a = r b
 ·have ht := Aside0.mk (two_false hab)
  have hm := Aside0.mk (merge_same r a b hab)
  have HAB := Aside0.mk hab; clear hab
  go_wp2_with (first | (go_at_call 86; refine (find_c HV.out HP.out hN a ha).mono ?_; rintro e w1 ⟨p1, rfl, a1, a2, a3⟩; have HV1 := Aside0.mk a1; have HP1 := Aside0.mk a2; have HG1 := Aside0.mk a3; clear a1 a2 a3 HV HP) | (go_at_call 86; refine (find_c HV1.out HP1.out hN b hb).mono ?_; rintro e w2 ⟨p2, rfl, a1, a2, a3⟩; rw [← HAB.out]; have HV2 := Aside0.mk a1; have HP2 := Aside0.mk a2; have HG2 : Aside0 (w.grownBy w2 (some g)) := ⟨World.grownBy.trans HG1.out a3⟩; clear a1 a2 a3 HV1 HP1))
  go_ret
  exact ⟨p2, by rw [ht.out]; rfl, HV2.out, by rw [hm.out]; exact HP2.out, HG2.out⟩
 ·have ht := Aside0.mk (two_true hab)
  have HAB := Aside0.mk hab
  obtain ⟨x, hx⟩ : ∃ x, x = r a := ⟨_, rfl⟩
  obtain ⟨y, hy⟩ : ∃ y, y = r b := ⟨_, rfl⟩
  have hxy : ¬ (x : Int) = (y : Int) := by omega
  have HX := Aside0.mk hx
  have HY := Aside0.mk hy
  have hxN : x < N := by omega
  have hyN : y < N := by omega
  clear hab hx hy
  go_upto_region 4 with (first | (go_at_call 86; refine (find_c HV.out HP.out hN a ha).mono ?_; rintro e w1 ⟨p1, rfl, a1, a2, a3⟩; rw [← HX.out]; have HV1 := Aside0.mk a1; have HP1 := Aside0.mk a2; have HG1 := Aside0.mk a3; clear a1 a2 a3 HV HP) | (go_at_call 86; refine (find_c HV1.out HP1.out hN b hb).mono ?_; rintro e w2 ⟨p2, rfl, a1, a2, a3⟩; rw [← HY.out]; have HV2 := Aside0.mk a1; have HP2 := Aside0.mk a2; have HG2 : Aside0 (w.grownBy w2 (some g)) := ⟨World.grownBy.trans HG1.out a3⟩; clear a1 a2 a3 HV1 HP1))
  by_cases hlt : (x : Int) < (y : Int)
  ·have hc0 := HV2.out.cell y hyN
   obtain ⟨hc, hf⟩ := hc0
   have HP3 := Aside0.mk (HV2.out.put y (x : Int))
   have HQ3 : Aside0 (PF N (merge r a b) (p2.set y (x : Int))) := ⟨by
    have h := HP2.out.join HO.out HV2.out.len.symm a b ha hb HAB.out
    rw [← HX.out, ← HY.out, show max x y = y by omega, show min x y = x by omega] at h
    exact h⟩
   have hI : (y : Int) < (N : Int) := by omega
   have hJ : ¬ (y : Int) < (x : Int) := by omega
   clear HV2 HP2
   go_wp2_with fail
   go_ret
   exact ⟨by rw [ht.out]; rfl, _, HP3.out, HQ3.out, World.grownBy.trans HG2.out (grown_set _ _ _ _)⟩
  ·have hlt2 : (y : Int) < (x : Int) := by omega
   have hc0 := HV2.out.cell x hxN
   obtain ⟨hc, hf⟩ := hc0
   have HP3 := Aside0.mk (HV2.out.put x (y : Int))
   have HQ3 : Aside0 (PF N (merge r a b) (p2.set x (y : Int))) := ⟨by
    have h := HP2.out.join HO.out HV2.out.len.symm a b ha hb HAB.out
    rw [← HX.out, ← HY.out, show max x y = x by omega, show min x y = y by omega] at h
    exact h⟩
   have hI : (x : Int) < (N : Int) := by omega
   have hJ : ¬ (x : Int) < (y : Int) := by omega
   clear HV2 HP2
   go_wp2_with fail
   go_ret
   exact ⟨by rw [ht.out]; rfl, _, HP3.out, HQ3.out, World.grownBy.trans HG2.out (grown_set _ _ _ _)⟩
end Go.Proofs.Ytohhobcipfmkbaa.CFin
namespace Go.Proofs.Ytohhobcipfmkbaa.CFin
open Go.RowKit Go.Proofs.YtohhobcipfmkbaaW.PrintWords Go.Proofs.YtohhobcipfmkbaaW.PrintMore Go.Proofs.YtohhobcipfmkbaaW.PrintLast Go.Proofs.Ytohhobcipfmkbaa.U Go.Proofs.Ytohhobcipfmkbaa.PClusterFinest Go.Proofs.Ytohhobcipfmkbaa.UFinest Go.Proofs.Ytohhobcipfmkbaa.UFinEv
theorem labOk_allF {N : Nat} {r : Lab} (h : LabOk N r) (base k : Nat) (hb : base + k < N) : LabOk N (allF r base k) := by
 induction k with
 | zero => exact h
 | succ k ih => exact (ih (by omega)).merge _ _ (by omega) (by omega)
def WV (w : World) (B g n m N cap : Nat) : Prop := w.heap[B]? = some (.cells #[.slice (some ⟨g, 0, none⟩) N cap, .int .i64 n, .int .i64 m] 87 (0, 0))
theorem WV.below {w w' : World} {B g n m N cap : Nat} (h : WV w B g n m N cap) (hb : Below w.heap.size w w') : WV w' B g n m N cap := (hb.block _ (blk_lt h)).trans h
theorem WV.grown {w w' : World} {B g g' n m N cap : Nat} (h : WV w B g n m N cap) (hg : w.grownBy w' (some g')) (hne : B ≠ g') : WV w' B g n m N cap := (hg.block _ (blk_lt h) (fun e => hne (Option.some.inj e))).trans h
theorem WV.c0 {w : World} {B g n m N cap : Nat} (h : WV w B g n m N cap) : w.cell? ⟨B, 0, none⟩ = some (.slice (some ⟨g, 0, none⟩) N cap) := (blk_cell h 0).trans rfl
theorem WV.c1 {w : World} {B g n m N cap : Nat} (h : WV w B g n m N cap) : w.cell? ⟨B, 1, none⟩ = some (.int .i64 n) := (blk_cell h 1).trans rfl
theorem WV.c2 {w : World} {B g n m N cap : Nat} (h : WV w B g n m N cap) : w.cell? ⟨B, 2, none⟩ = some (.int .i64 m) := (blk_cell h 2).trans rfl
theorem below_grownBy {w w' : World} (h : Below w.heap.size w w') (row : Option Nat) : w.grownBy w' row := ⟨h.os, h.tape, h.output, h.size, fun k hk _ => h.block k hk⟩
set_option maxRecDepth 100000 in
set_option maxHeartbeats 1000000 in
theorem all_c {w : World} {base B g n m N cap : Nat} {p : List Int} {r : Lab} (hW : WV w B g n m N cap) (h : LI w base g N cap p) (hne : B ≠ g) (hp : PF N r p) (ho : LabOk N r) (hN : N ≤ 1000000) (lo hi by_ : Nat) (hlh : lo < hi) (hh : by_ + hi ≤ N) :
 Calls Try.prog 83 #[.pointer (some ⟨B, 0, none⟩), .agg #[.int .i64 lo, .int .i64 hi], .int .i64 by_] w fun e w' => e = .returned (.tuple #[]) ∧ ∃ p', LI w' base g N cap p' ∧ PF N (allF r (by_ + lo) (hi - lo - 1)) p' ∧ w.grownBy w' (some g) := by
 have HW := Aside0.mk hW
 have HV := Aside0.mk h
 have HP := Aside0.mk hp
 have HO := Aside0.mk ho
 have hgw := h.ltw
 have e1 : IntKind.i64.wrap ((lo : Int) + 1) = ((lo + 1 : Nat) : Int) := by rw [IntWalk.i64_in _ (by omega)]; omega
 clear hW h hp ho
 go_enter Try.func83, Try.ntmps83
 go_wp2_with (first | ((with_reducible refine gate_dst (N := 4) rfl ?_); refine box_event ?hg (N := 4) ?hd (cs := #[.int .i64 lo, .int .i64 hi]) (t := 33) ?hr ?_; (case hd => rfl); (case hg => rfl); (case hr => first | (go_simp; done) | (go_simp; rfl)); intro gb hg w5 hbox hb; have HW5 := Aside0.mk (HW.out.below hb); have HV5 := Aside0.mk (HV.out.below hb); have HX := Aside0.mk hbox; have HGB := Aside0.mk hg; have HG5 := Aside0.mk (below_grownBy hb (some g)); have b0 : w5.cell? ⟨gb, 0, none⟩ = some (.int .i64 lo) := (blk_cell hbox 0).trans rfl; have b1 : w5.cell? ⟨gb, 1, none⟩ = some (.int .i64 hi) := (blk_cell hbox 1).trans rfl; clear hg hbox hb HW HV))
 clear b0 b1
 have HGN : Aside0 (gb ≠ g) := ⟨by have := HGB.out; omega⟩
 go_loopw [6] (fun v wr => ∃ (j : Nat) (p : List Int), v = .int .i64 j ∧ lo + 1 ≤ j ∧ j ≤ hi ∧ Aside0 (WV wr B g n m N cap) ∧ Aside0 (LI wr base g N cap p) ∧ Aside0 (PF N (allF r (by_ + lo) (j - lo - 1)) p) ∧ Aside0 (wr.heap[gb]? = some (.cells #[.int .i64 lo, .int .i64 hi] 33 (0, 0))) ∧ Aside0 (w.grownBy wr (some g))) (fun v _ => hi - (intOf v).toNat)
 case atStart => exact ⟨lo + 1, p, rfl, Nat.le_refl _, hlh, HW5, HV5, ⟨by rw [show lo + 1 - lo - 1 = 0 by omega]; exact HP.out⟩, HX, HG5⟩
 case round =>
  clear HW5 HV5 HP HX HG5
  obtain ⟨j, p, rfl, hj1, hj2, HW, HV, HP, HX, HG⟩ := hrel
  have b0 := (blk_cell HX.out 0).trans rfl
  have b1 := (blk_cell HX.out 1).trans rfl
  have d0 := HW.out.c0
  by_cases hlt : j < hi
  ·have hjI : (j : Int) < (hi : Int) := by omega
   obtain ⟨a, ha⟩ : ∃ a, a = by_ + lo := ⟨_, rfl⟩
   obtain ⟨b, hb⟩ : ∃ b, b = by_ + j := ⟨_, rfl⟩
   have e2 : IntKind.i64.wrap ((by_ : Int) + (lo : Int)) = (a : Int) := by rw [IntWalk.i64_in _ (by omega)]; omega
   have e3 : IntKind.i64.wrap ((by_ : Int) + (j : Int)) = (b : Int) := by rw [IntWalk.i64_in _ (by omega)]; omega
   have haN : a < N := by omega
   have hbN : b < N := by omega
   have HA := Aside0.mk ha
   have HB := Aside0.mk hb
   clear ha hb
   go_wp2_with fail
   go_still_tail 11, (by kernel_rfl)
   repeat still_step
   have HWd : Aside0 (WV wr.drew B g n m N cap) := ⟨HW.out⟩
   have HVd : Aside0 (LI wr.drew base g N cap p) := ⟨Kd.R_drew HV.out⟩
   go_wp2_with (go_at_call 84; refine (join_c HVd.out HP.out (labOk_allF HO.out _ _ (by omega)) hN a b haN hbN).mono ?_; rintro e w6 ⟨p1, rfl, a1, a2, a3⟩; have HV6 := Aside0.mk a1; have HP6 : Aside0 (PF N (allF r (by_ + lo) (j + 1 - lo - 1)) p1) := ⟨by rw [HA.out, HB.out] at a2; rw [show j + 1 - lo - 1 = (j - lo - 1) + 1 by omega]; have e : by_ + lo + (j - lo - 1) + 1 = by_ + j := (by omega); show PF N (merge (allF r (by_ + lo) (j - lo - 1)) (by_ + lo) (by_ + lo + (j - lo - 1) + 1)) p1; rw [e]; exact a2⟩; have HG6 := Aside0.mk a3; clear a1 a2 a3)
   have HGd : Aside0 (wr.grownBy w6 (some g)) := ⟨World.grownBy.trans (below_grownBy (below_drew (Below.refl _ _)) _) HG6.out⟩
   exact ⟨⟨j + 1, p1, by go_num, by omega, by omega, ⟨HW.out.grown HGd.out hne⟩, HV6, HP6, ⟨(HGd.out.block _ (blk_lt HX.out) (fun e => HGN.out (Option.some.inj e))).trans HX.out⟩, ⟨World.grownBy.trans HG.out HGd.out⟩⟩, by simp [intOf]; omega⟩
  ·have ej : j = hi := by omega
   subst ej
   go_wp2_with fail
   go_end0
   exact ⟨rfl, p, HV.out, HP.out, HG.out⟩
end Go.Proofs.Ytohhobcipfmkbaa.CFin
namespace Go.Proofs.Ytohhobcipfmkbaa.CFin
open Go.RowKit Go.Proofs.YtohhobcipfmkbaaW.PrintWords Go.Proofs.YtohhobcipfmkbaaW.PrintMore Go.Proofs.YtohhobcipfmkbaaW.PrintLast Go.Proofs.Ytohhobcipfmkbaa.U Go.Proofs.Ytohhobcipfmkbaa.PClusterFinest Go.Proofs.Ytohhobcipfmkbaa.UFinest Go.Proofs.Ytohhobcipfmkbaa.UFinEv
set_option maxRecDepth 100000 in
set_option maxHeartbeats 1000000 in
theorem link_c {w : World} {base B g n m N cap : Nat} {p : List Int} {r : Lab} (hW : WV w B g n m N cap) (h : LI w base g N cap p) (hne : B ≠ g) (hp : PF N r p) (ho : LabOk N r) (hN : N ≤ 1000000) (x : Lk) (hab : x.a < x.b) (hbn : x.b ≤ n) (hcd : x.c < x.d) (hdm : x.d ≤ m) (hnm : n + m = N) :
 Calls Try.prog 60 #[.pointer (some ⟨B, 0, none⟩), .agg #[.int .i64 x.a, .int .i64 x.b, .int .i64 x.c, .int .i64 x.d]] w fun e w' => e = .returned (.tuple #[]) ∧ ∃ p', LI w' base g N cap p' ∧ PF N (linkF n r x) p' ∧ w.grownBy w' (some g) := by
 have HW := Aside0.mk hW
 have HV := Aside0.mk h
 have HP := Aside0.mk hp
 have HO := Aside0.mk ho
 have hgw := h.ltw
 obtain ⟨a, b, c, d⟩ := x
 dsimp only at hab hbn hcd hdm
 have HO1 := Aside0.mk (labOk_allF ho a (b - a - 1) (by omega))
 have HO2 := Aside0.mk (labOk_allF HO1.out (n + c) (d - c - 1) (by omega))
 clear hW h hp ho
 dsimp only
 go_enter Try.func60, Try.ntmps60
 go_wp2_with (first | ((with_reducible refine gate_dst (N := 3) rfl ?_); refine box_event ?hg (N := 3) ?hd (cs := #[.int .i64 a, .int .i64 b, .int .i64 c, .int .i64 d]) (t := 45) ?hr ?_; (case hd => rfl); (case hg => rfl); (case hr => first | (go_simp; done) | (go_simp; rfl)); intro gb hg w5 hbox hb; have HW5 := Aside0.mk (HW.out.below hb); have HV5 := Aside0.mk (HV.out.below hb); have HX := Aside0.mk hbox; have HGB := Aside0.mk hg; have HG5 := Aside0.mk (below_grownBy hb (some g)); have b0 : w5.cell? ⟨gb, 0, none⟩ = some (.int .i64 a) := (blk_cell hbox 0).trans rfl; have b1 : w5.cell? ⟨gb, 1, none⟩ = some (.int .i64 b) := (blk_cell hbox 1).trans rfl; clear hg hbox hb HW HV) | (go_at_call 83; refine (all_c (lo := a) (hi := b) (by_ := 0) HW5.out HV5.out hne HP.out HO.out hN hab (by omega)).mono ?_; rintro e w6 ⟨rfl, p1, a1, a2, a3⟩; have HV6 := Aside0.mk a1; have HP6 : Aside0 (PF N (allF r a (b - a - 1)) p1) := ⟨by rw [Nat.zero_add] at a2; exact a2⟩; have HW6 := Aside0.mk (HW5.out.grown a3 hne); have HX6 : Aside0 (w6.heap[gb]? = _) := ⟨(a3.block _ (blk_lt HX.out) (fun e => by have := HGB.out; have := Option.some.inj e; omega)).trans HX.out⟩; have HG6 : Aside0 (w.grownBy w6 (some g)) := ⟨World.grownBy.trans HG5.out a3⟩; clear a1 a2 a3 HW5 HV5 HX HG5 HP b0 b1))
 have q2 : w6.cell? ⟨gb, 2, none⟩ = some (.int .i64 c) := (blk_cell HX6.out 2).trans rfl
 have q3 : w6.cell? ⟨gb, 3, none⟩ = some (.int .i64 d) := (blk_cell HX6.out 3).trans rfl
 have d1 := HW6.out.c1
 go_still_tail 7, (by kernel_rfl)
 repeat still_step
 have HWd : Aside0 (WV w6.drew B g n m N cap) := ⟨HW6.out⟩
 have HVd : Aside0 (LI w6.drew base g N cap p1) := ⟨Kd.R_drew HV6.out⟩
 clear q2 q3 d1
 go_wp2_with (go_at_call 83; refine (all_c (lo := c) (hi := d) (by_ := n) HWd.out HVd.out hne HP6.out HO1.out hN hcd (by omega)).mono ?_; rintro e w7 ⟨rfl, p2, a1, a2, a3⟩; have HV7 := Aside0.mk a1; have HP7 := Aside0.mk a2; have HW7 := Aside0.mk (HWd.out.grown a3 hne); have hgd : w6.grownBy w7 (some g) := World.grownBy.trans (below_grownBy (below_drew (Below.refl _ _)) _) a3; have HX7 : Aside0 (w7.heap[gb]? = _) := ⟨(hgd.block _ (blk_lt HX6.out) (fun e => by have := HGB.out; have := Option.some.inj e; omega)).trans HX6.out⟩; have HG7 : Aside0 (w.grownBy w7 (some g)) := ⟨World.grownBy.trans HG6.out hgd⟩; clear a1 a2 a3 hgd HWd HVd HW6 HV6 HX6 HG6 HP6)
 have q0 : w7.cell? ⟨gb, 0, none⟩ = some (.int .i64 a) := (blk_cell HX7.out 0).trans rfl
 have q2 : w7.cell? ⟨gb, 2, none⟩ = some (.int .i64 c) := (blk_cell HX7.out 2).trans rfl
 have d0 := HW7.out.c0
 have d1 := HW7.out.c1
 obtain ⟨k, hk⟩ : ∃ k, k = n + c := ⟨_, rfl⟩
 have e2 : IntKind.i64.wrap ((n : Int) + (c : Int)) = (k : Int) := by rw [IntWalk.i64_in _ (by omega)]; omega
 have hkN : k < N := by omega
 have haN : a < N := by omega
 have HK := Aside0.mk hk; clear hk
 go_still_tail 15, (by kernel_rfl)
 repeat still_step
 have HVd : Aside0 (LI w7.drew base g N cap p2) := ⟨Kd.R_drew HV7.out⟩
 clear q0 q2 d0 d1
 go_wp2_with (go_at_call 84; refine (join_c HVd.out HP7.out HO2.out hN a k haN hkN).mono ?_; rintro e w8 ⟨p3, rfl, a1, a2, a3⟩; have HV8 := Aside0.mk a1; have HP8 : Aside0 (PF N (linkF n r ⟨a, b, c, d⟩) p3) := ⟨by rw [HK.out] at a2; exact a2⟩; have HG8 : Aside0 (w.grownBy w8 (some g)) := ⟨World.grownBy.trans HG7.out (World.grownBy.trans (below_grownBy (below_drew (Below.refl _ _)) _) a3)⟩; clear a1 a2 a3)
 go_end0
 exact ⟨rfl, p3, HV8.out, HP8.out, HG8.out⟩
end Go.Proofs.Ytohhobcipfmkbaa.CFin
namespace Go.Proofs.Ytohhobcipfmkbaa.CFin
open Go.RowKit Go.Proofs.YtohhobcipfmkbaaW.PrintWords Go.Proofs.YtohhobcipfmkbaaW.PrintMore Go.Proofs.YtohhobcipfmkbaaW.PrintLast Go.Proofs.Ytohhobcipfmkbaa.U Go.Proofs.Ytohhobcipfmkbaa.PClusterFinest Go.Proofs.Ytohhobcipfmkbaa.UFinest Go.Proofs.Ytohhobcipfmkbaa.UFinEv
set_option maxRecDepth 100000 in
set_option maxHeartbeats 1000000 in
theorem alone_c {w : World} (n : Nat) (hn : n ≤ 1000000) :
 Calls Try.prog 59 #[.int .i64 n] w fun e w' => ∃ (g cap : Nat) (p : List Int), e = .returned (.slice (some ⟨g, 0, none⟩) n cap) ∧ LI w' w.heap.size g n cap p ∧ PF n idL p ∧ Below w.heap.size w w' := by
 go_enter Try.func59, Try.ntmps59
 go_wp2_with (first | ((with_reducible refine gate_dst (N := 6) rfl ?_); refine Kd.R_make (Kd.int .i64) (w0 := w) w.heap.size 3 rfl (N := 6) rfl 84 _ _ rfl n rfl rfl Try.underlying84 (.int .i64 0) 8 info3 rfl (by decide) (by omega) 0 (ok := fun _ => True) (okp := fun _ => True) rfl (fun _ hk => hk) trivial (by omega) (by omega) (Below.refl _ _) (Nat.le_refl _) ?_; intro v w1 hv hb hg hnew; obtain ⟨g, cap, ev, hgo⟩ := R_form hv (hnew.imp fun _ h => h.1); subst ev; rw [List.length_replicate, Int.toNat_natCast] at hv ⊢; have HV := Aside0.mk (LI.of_R hv); have HB := Aside0.mk hb; clear hv hb hg hnew hgo))
 go_loopw [9] (fun v wr => ∃ (k : Nat) (xs : List Int), v = .int .i64 k ∧ k ≤ n ∧ Aside0 (xs.length = n) ∧ Aside0 (Upto 0 k xs) ∧ Aside0 (LI wr w.heap.size g n cap xs) ∧ Aside0 (Below w.heap.size w wr)) (fun v _ => n - (intOf v).toNat)
 case atStart => exact ⟨0, List.replicate n 0, rfl, Nat.zero_le _, ⟨List.length_replicate ..⟩, ⟨fun i hi => absurd hi (Nat.not_lt_zero i)⟩, HV, HB⟩
 case round =>
  clear HV HB
  obtain ⟨k, xs, rfl, hk, HXL, HUP, HV, HB⟩ := hrel
  by_cases hlt : k < n
  ·obtain ⟨hy, hz⟩ := HV.out.cell k hlt
   have HP := Aside0.mk (HV.out.put k (k : Int))
   have HU : Aside0 (Upto 0 (k + 1) (xs.set k (k : Int))) := ⟨by have := HUP.out.set (by rw [HXL.out]; exact hlt); rwa [Nat.zero_add] at this⟩
   have HXL2 : Aside0 ((xs.set k (k : Int)).length = n) := ⟨by rw [List.length_set]; exact HXL.out⟩
   have HGE := Aside0.mk HV.out.lt
   clear HV HUP
   have hkI : (k : Int) < (n : Int) := by omega
   go_wp2_with fail
   exact ⟨⟨k + 1, _, by go_num, by omega, HXL2, HU, HP, ⟨HB.out.setCell (p := ⟨g, k, none⟩) HGE.out _⟩⟩, by simp [intOf]; omega⟩
  ·have ek : k = n := by omega
   subst ek
   go_wp2_with fail
   go_ret
   exact ⟨g, cap, xs, rfl, HV.out, PF.id (fun i hi => by have := HUP.out i hi; rwa [Nat.zero_add] at this), HB.out⟩
end Go.Proofs.Ytohhobcipfmkbaa.CFin
namespace Go.Proofs.Ytohhobcipfmkbaa.CFin
open Go.RowKit Go.Proofs.YtohhobcipfmkbaaW.PrintWords Go.Proofs.YtohhobcipfmkbaaW.PrintMore Go.Proofs.YtohhobcipfmkbaaW.PrintLast Go.Proofs.Ytohhobcipfmkbaa.U Go.Proofs.Ytohhobcipfmkbaa.PClusterFinest Go.Proofs.Ytohhobcipfmkbaa.UFinest Go.Proofs.Ytohhobcipfmkbaa.UFinEv
theorem index_loop (P : Nat → Bool) (b : List Bool) (hb : RepB P b) (hl : b.length ≤ 1000000) (d : Nat) : ∀ i : Nat, i + d = b.length → (∀ j, j < i → P j = false) → (List.range b.length).findIdx P < b.length →
 Ev (fun k => slices_Index_bool_bool.l0 k b true (b.length : Int) (i : Int)) (((List.range b.length).findIdx P : Nat) : Int) := by
 induction d with
 | zero =>
  intro i hd hf hlt
  exfalso
  have h := List.findIdx_getElem (xs := List.range b.length) (p := P) (w := by simpa using hlt)
  rw [List.getElem_range] at h
  rw [hf _ (by omega)] at h
  cases h
 | succ d ih =>
  intro i hd hf hfl
  have hlt : i < b.length := by omega
  refine Ev.step (fun k => by rw [slices_Index_bool_bool.l0]) (ev_pos (by omega) (ev_pos (by omega) (ev_pos (by omega) ?_)))
  rw [rdB, hb i hlt]
  by_cases hp : P i = true
  ·have hfi : (List.range b.length).findIdx P = i := by
    rw [List.findIdx_eq (by simpa using hlt)]
    refine ⟨by simpa using hp, fun j hj => ?_⟩
    simp [hf j hj]
   rw [hfi]
   exact ev_pos (by rw [hp]; rfl) (ev_now _)
  ·have hpf : P i = false := by simpa using hp
   refine ev_neg (by rw [hpf]; decide) ?_
   rw [w64 (by omega) (by omega), show (i : Int) + 1 = ((i + 1 : Nat) : Int) by omega]
   exact ih (i + 1) (by omega) (fun j hj => by
    by_cases hji : j = i
    ·subst hji; exact hpf
    ·exact hf j (by omega)) hfl
theorem index_c (n : Nat) {w : World} {base g cap : Nat} {L : List Lk} {b : List Bool} (h : LB w base g n cap b) (hl : b.length = n) (hn : n ≤ 1000000) (hb : RepB (linkedB L) b) (hf : firstF L n < n) :
 Calls Try.prog 85 #[.slice (some ⟨g, 0, none⟩) n cap, .bool true] w fun e w' => e = .returned (.int .i64 (firstF L n : Nat)) ∧ Drawn0 w w' := by
 obtain ⟨_, hc, hC⟩ := Kd.R_reads' h
 subst hl
 have he : Ev (fun k => slices_Index_bool_bool.f k b true) ((firstF L b.length : Nat) : Int) := index_loop (linkedB L) b hb hn b.length 0 (by omega) (fun j h => absurd h (Nat.not_lt_zero j)) hf
 obtain ⟨k, hk⟩ := ev_some he
 exact slices_Index_bool_bool.calls k _ cap b true _ w hC hc hk
end Go.Proofs.Ytohhobcipfmkbaa.CFin
namespace Go.Proofs.Ytohhobcipfmkbaa.CFin
open Go.RowKit Go.Proofs.YtohhobcipfmkbaaW.PrintWords Go.Proofs.YtohhobcipfmkbaaW.PrintMore Go.Proofs.YtohhobcipfmkbaaW.PrintLast Go.Proofs.Ytohhobcipfmkbaa.U Go.Proofs.Ytohhobcipfmkbaa.PClusterFinest Go.Proofs.Ytohhobcipfmkbaa.UFinest Go.Proofs.Ytohhobcipfmkbaa.UFinEv
theorem drawn0_below {w w' : World} (h : Drawn0 w w') : Below w.heap.size w w' := by
 obtain ⟨q, rfl⟩ := h
 exact pw_below_drewN (Below.refl _ _) q
theorem LB.put {w : World} {base g n cap : Nat} {xs : List Bool} (h : LB w base g n cap xs) (i : Nat) (x : Bool) : LB (w.setCell ⟨g, i, none⟩ (.bool x)) base g n cap (xs.set i x) := by
 have := (Kd.R_putg h (i : Int) x).1
 rwa [Int.toNat_natCast] at this
theorem LB.fro {w : World} {base g n cap : Nat} {xs : List Bool} (h : LB w base g n cap xs) (i : Nat) (hi : i < n) : w.frozen? ⟨g, i, none⟩ = false := by
 have := (Kd.R_celln false h (i : Int) (by omega) (by omega)).2
 rwa [Int.toNat_natCast] at this
theorem LB.other {w : World} {base g n cap : Nat} {xs : List Bool} (h : LB w base g n cap xs) {g' : Nat} (hg : g ≠ g') (i : Nat) (v : Value) : LB (w.setCell ⟨g', i, none⟩ v) base g n cap xs :=
 Kd.R_grown h (grown_set w g' i v) (fun k hk e => hg (by rw [← hk]; exact Option.some.inj e))
theorem LB.len {w : World} {base g n cap : Nat} {xs : List Bool} (h : LB w base g n cap xs) : n = xs.length := (Kd.R_reads' h).1
theorem LB.lt {w : World} {base g n cap : Nat} {xs : List Bool} (h : LB w base g n cap xs) : base ≤ g := by
 obtain ⟨_, h2, _, _⟩ := (Kd.R_bound h).1 g rfl
 exact h2
set_option maxRecDepth 100000 in
set_option maxHeartbeats 1000000 in
theorem stray_c {w : World} {base B g n m N cap c : Nat} {A : Option Addr} {p : List Int} {r : Lab} {l : List S45} (hW : WV w B g n m N cap) (h : LI w base g N cap p) (hne : B ≠ g) (hp : PF N r p) (ho : LabOk N r) (hN : N ≤ 100000) (hnm : n + m = N) (hm : 0 < m)
 (hC : Kd.C k45 w A l.length l) (hl : l.length ≤ 5000) (hlk : ∀ x ∈ l, LinkOk n m x) (hf : firstF (l.map lkOf) n < n) :
 Calls Try.prog 61 #[.pointer (some ⟨B, 0, none⟩), .slice A l.length c] w fun e w' => e = .returned (.tuple #[]) ∧ ∃ p', LI w' base g N cap p' ∧ PF N (strayF (l.map lkOf) n r n) p' ∧ w.grownBy w' (some g) := by
 have HW := Aside0.mk hW
 have HV := Aside0.mk h
 have HP := Aside0.mk hp
 have HO := Aside0.mk ho
 have HC := Aside0.mk hC
 have HLK := Aside0.mk hlk
 have HF := Aside0.mk hf
 have hgw := h.ltw
 have d1 := hW.c1
 clear hW h hp ho hC hlk hf
 go_enter Try.func61, Try.ntmps61
 go_wp2_with (first | ((with_reducible refine gate_dst (N := 14) rfl ?_); refine Kd.R_make Kd.bool (w0 := w) w.heap.size 4 rfl (N := 14) rfl 91 _ _ rfl n rfl rfl Try.underlying91 (.bool false) 1 info4 rfl (by decide) (by omega) false (ok := fun _ => True) (okp := fun _ => True) rfl (fun _ hk => hk) trivial (by omega) (by omega) (Below.refl _ _) (Nat.le_refl _) ?_; intro v w1 hv hb hg hnew; obtain ⟨gl, capl, ev, hgo⟩ := R_form hv (hnew.imp fun _ h => h.1); subst ev; rw [List.length_replicate, Int.toNat_natCast] at hv ⊢; have HB0 := Aside0.mk (LB.of_R hv); have HB := Aside0.mk hb; clear hv hb hg hnew hgo d1))
 go_loopw [17] (fun v wr => ∃ (k : Nat) (bs : List Bool), v = .int .i64 k ∧ k ≤ l.length ∧ Aside0 (RepB (linkedB ((l.take k).map lkOf)) bs) ∧ Aside0 (LB wr w.heap.size gl n capl bs) ∧ Aside0 (Below w.heap.size w wr)) (fun v _ => l.length - (intOf v).toNat)
 case atStart => exact ⟨0, List.replicate n false, rfl, Nat.zero_le _, ⟨fun i hi => by simp at hi; simp [linkedB, List.getD_eq_getElem?_getD, List.getElem?_replicate, hi]⟩, HB0, HB⟩
 case round =>
  clear HB0 HB
  obtain ⟨k, bs, rfl, hk, HR, HB0, HB⟩ := hrel
  by_cases hlt : k < l.length
  ·have hx := HLK.out _ (List.getElem_mem hlt)
   obtain ⟨ad, ead, c0, c1, c2, c3⟩ := at_T45 (Kd.C_below HC.out HB.out) (k : Int) (by omega) (by omega)
   rw [rd45 hlt, Int.toNat_natCast] at c0 c1 c2 c3
   have ha0 := hx.a0; have hab := hx.ab; have hbn := hx.bn
   obtain ⟨lo, hlo⟩ : ∃ lo : Nat, l[k].f0.f0 = (lo : Int) := ⟨l[k].f0.f0.toNat, by omega⟩
   obtain ⟨hi, hhi⟩ : ∃ hi : Nat, l[k].f0.f1 = (hi : Int) := ⟨l[k].f0.f1.toNat, by omega⟩
   rw [hlo] at c0
   rw [hhi] at c1
   generalize hx3 : l[k].f1.f0 = x3 at c2
   generalize hx4 : l[k].f1.f1 = x4 at c3
   have HLO := Aside0.mk hlo
   have HHI := Aside0.mk hhi
   have hlh : lo < hi := by omega
   have hhn : hi ≤ n := by omega
   have HEA := Aside0.mk ead
   subst ead
   clear hx ha0 hab hbn hlo hhi hx3 hx4
   have hkI : (k : Int) < (l.length : Int) := by omega
   go_wp2_with (first | ((with_reducible refine gate_dst (N := 6) rfl ?_); refine box_event ?hg (N := 6) ?hd (cs := #[.int .i64 0, .int .i64 0, .int .i64 0, .int .i64 0]) (t := 45) ?hr ?_; (case hd => rfl); (case hg => rfl); (case hr => first | (go_simp; done) | (go_simp; rfl)); intro gb hg w6 hbox hb; have HX6 := Aside0.mk hbox; have HGB := Aside0.mk hg; have HGW := Aside0.mk HB0.out.ltw; have HGX : Aside0 (w.heap.size ≤ gb) := ⟨by rw [hg]; exact HB.out.size⟩; have HB6 : Aside0 (Below w.heap.size w w6) := ⟨below_step HB.out hb⟩; have HB06 := Aside0.mk (HB0.out.below hb); have z0 : w6.cell? ⟨gb, 0, none⟩ = some (.int .i64 0) := (blk_cell hbox 0).trans rfl; have z1 : w6.cell? ⟨gb, 1, none⟩ = some (.int .i64 0) := (blk_cell hbox 1).trans rfl; have z2 : w6.cell? ⟨gb, 2, none⟩ = some (.int .i64 0) := (blk_cell hbox 2).trans rfl; have z3 : w6.cell? ⟨gb, 3, none⟩ = some (.int .i64 0) := (blk_cell hbox 3).trans rfl; have f0 := blk_frozen hbox 0; have f1 := blk_frozen hbox 1; have f2 := blk_frozen hbox 2; have f3 := blk_frozen hbox 3; clear hg hbox hb HB HB0))
   have hgl := HB06.out.ltw
   have HNG : Aside0 (gl ≠ gb) := ⟨by have h1 := HGB.out; have h2 := HGW.out; omega⟩
   have HGE : Aside0 (w.heap.size ≤ gb) := ⟨HGX.out⟩
   have HX := Aside0.mk (blk_put (blk_put (blk_put (blk_put HX6.out 0 (.int .i64 lo) rfl) 1 (.int .i64 hi) rfl) 2 (.int .i64 x3) rfl) 3 (.int .i64 x4) rfl)
   have HB7 := Aside0.mk ((((HB6.out.setCell (p := ⟨gb, 0, none⟩) HGE.out (.int .i64 lo)).setCell (p := ⟨gb, 1, none⟩) HGE.out (.int .i64 hi)).setCell (p := ⟨gb, 2, none⟩) HGE.out (.int .i64 x3)).setCell (p := ⟨gb, 3, none⟩) HGE.out (.int .i64 x4))
   have HB07 := Aside0.mk ((((HB06.out.other HNG.out 0 (.int .i64 lo)).other HNG.out 1 (.int .i64 hi)).other HNG.out 2 (.int .i64 x3)).other HNG.out 3 (.int .i64 x4))
   clear z0 z1 z2 z3 f0 f1 f2 f3 HX6 HB6 HB06 hgl c0 c1 c2 c3
   go_loopw [7] (fun v wr => ∃ (t : Nat) (bs : List Bool), v = .int .i64 t ∧ lo ≤ t ∧ t ≤ hi ∧ Aside0 (RepB (fun q => linkedB ((l.take k).map lkOf) q || (decide (lo ≤ q) && decide (q < t))) bs) ∧ Aside0 (LB wr w.heap.size gl n capl bs) ∧ Aside0 (wr.heap[gb]? = some (.cells #[.int .i64 lo, .int .i64 hi, .int .i64 x3, .int .i64 x4] 45 (0, 0))) ∧ Aside0 (Below w.heap.size w wr)) (fun v _ => hi - (intOf v).toNat)
   case atStart => exact ⟨lo, bs, rfl, Nat.le_refl _, by omega, ⟨fun q hq => by rw [HR.out q hq]; have : (decide (lo ≤ q) && decide (q < lo)) = false := (by simp <;> omega); dsimp only; rw [this, Bool.or_false]⟩, HB07, HX, HB7⟩
   case round =>
    clear HB07 HX HB7 HR
    obtain ⟨t, bs, rfl, ht1, ht2, HR, HB0, HX, HB⟩ := hrel
    have b1 : wr.cell? ⟨gb, 1, none⟩ = some (.int .i64 hi) := (blk_cell HX.out 1).trans rfl
    by_cases hlt2 : t < hi
    ·have hcl := HB0.out.cell t (by omega)
     have hfr := HB0.out.fro t (by omega)
     have HP2 := Aside0.mk (HB0.out.put t true)
     have HR2 : Aside0 (RepB (fun q => linkedB ((l.take k).map lkOf) q || (decide (lo ≤ q) && decide (q < t + 1))) (bs.set t true)) := ⟨by
      intro q hq
      rw [repB_set HR.out t (by rw [← HB0.out.len]; omega) q hq]
      dsimp only
      by_cases e : q = t
      ·subst e; simp; omega
      ·have e1 : decide (q = t) = false := decide_eq_false e
       have e2 : decide (q < t + 1) = decide (q < t) := by rw [decide_eq_decide]; omega
       rw [e1, e2, Bool.or_false]⟩
     have HX2 : Aside0 ((wr.setCell ⟨gl, t, none⟩ (.bool true)).heap[gb]? = some (.cells #[.int .i64 lo, .int .i64 hi, .int .i64 x3, .int .i64 x4] 45 (0, 0))) := ⟨((grown_set wr gl t (.bool true)).block _ (blk_lt HX.out) (fun e => HNG.out (Option.some.inj e).symm)).trans HX.out⟩
     have HGL := Aside0.mk HB0.out.lt
     have htI : (t : Int) < (hi : Int) := by omega
     have htn : (t : Int) < (n : Int) := by omega
     clear HR HX HB0
     go_wp2_with fail
     exact ⟨⟨t + 1, _, by go_num, by omega, by omega, HR2, HP2, HX2, ⟨HB.out.setCell (p := ⟨gl, t, none⟩) HGL.out _⟩⟩, by simp [intOf]; omega⟩
    ·have et : t = hi := by omega
     subst et
     have HR3 : Aside0 (RepB (linkedB ((l.take (k + 1)).map lkOf)) bs) := ⟨by
      intro q hq
      rw [HR.out q hq, List.take_succ_eq_append_getElem hlt, List.map_append]
      unfold linkedB
      rw [List.any_append]
      have ea : (lkOf l[k]).a = lo := by unfold lkOf; dsimp only; rw [HLO.out, Int.toNat_natCast]
      have eb : (lkOf l[k]).b = t := by unfold lkOf; dsimp only; rw [HHI.out, Int.toNat_natCast]
      simp [ea, eb]⟩
     clear HR
     go_wp2_with fail
     exact ⟨⟨k + 1, bs, by go_num, by omega, HR3, HB0, HB⟩, by simp [intOf]; omega⟩
  ·have ek : k = l.length := by omega
   subst ek
   have HR2 : Aside0 (RepB (linkedB (l.map lkOf)) bs) := ⟨by have := HR.out; rwa [List.take_of_length_le (Nat.le_refl _)] at this⟩
   clear HR
   obtain ⟨f, hfe⟩ : ∃ f, f = firstF (l.map lkOf) n := ⟨_, rfl⟩
   have HFE := Aside0.mk hfe; clear hfe
   go_wp2_with (go_at_call 85; refine (index_c n HB0.out HB0.out.len.symm (by omega) HR2.out HF.out).mono ?_; rintro e w3 ⟨rfl, hd⟩; rw [← HFE.out]; have hb3 := drawn0_below hd; have HB3 : Aside0 (Below w.heap.size w w3) := ⟨below_step HB.out hb3⟩; have HB03 := Aside0.mk (HB0.out.below hb3); clear hd hb3 HB HB0)
   have HW3 := Aside0.mk (HW.out.below HB3.out)
   have HV3 := Aside0.mk (HV.out.below HB3.out)
   have HG3 := Aside0.mk (below_grownBy HB3.out (some g))
   have HNL : Aside0 (gl ≠ g) := ⟨by have := HB03.out.lt; omega⟩
   go_loopw [39] (fun v wr => ∃ (i : Nat) (p : List Int), v = .int .i64 i ∧ i ≤ n ∧ Aside0 (WV wr B g n m N cap) ∧ Aside0 (LI wr base g N cap p) ∧ Aside0 (PF N (strayF (l.map lkOf) n r i) p) ∧ Aside0 (LabOk N (strayF (l.map lkOf) n r i)) ∧ Aside0 (LB wr w.heap.size gl n capl bs) ∧ Aside0 (w.grownBy wr (some g))) (fun v _ => n - (intOf v).toNat)
   case atStart => exact ⟨0, p, rfl, Nat.zero_le _, HW3, HV3, HP, HO, HB03, HG3⟩
   case round =>
    clear HW3 HV3 HG3 HB03 HW HV HP HO HB3
    obtain ⟨i, p, rfl, hi, HW, HV, HP, HO, HB0, HG⟩ := hrel
    by_cases hlt : i < n
    ·have hcl := HB0.out.cell i hlt
     rw [HR2.out i (by rw [← HB0.out.len]; exact hlt)] at hcl
     have d0 := HW.out.c0
     have hiI : (i : Int) < (n : Int) := by omega
     obtain ⟨b, hb⟩ : ∃ b, b = linkedB (l.map lkOf) i := ⟨_, rfl⟩
     rw [← hb] at hcl
     have HBB := Aside0.mk hb; clear hb
     cases b with
     | true =>
      have HST : Aside0 (strayF (l.map lkOf) n r (i + 1) = strayF (l.map lkOf) n r i) := ⟨by show (if linkedB (l.map lkOf) i then _ else _) = _; rw [if_pos HBB.out.symm]⟩
      go_wp2_with fail
      exact ⟨⟨i + 1, p, by go_num, by omega, HW, HV, ⟨by rw [HST.out]; exact HP.out⟩, ⟨by rw [HST.out]; exact HO.out⟩, HB0, HG⟩, by simp [intOf]; omega⟩
     | false =>
      by_cases hfi : f < i
      ·have HST : Aside0 (strayF (l.map lkOf) n r (i + 1) = merge (strayF (l.map lkOf) n r i) (i - 1) i) := ⟨by show (if linkedB (l.map lkOf) i then _ else _) = _; rw [if_neg (by rw [← HBB.out]; simp), if_pos (by rw [← HFE.out]; exact hfi)]⟩
       have hfI : (f : Int) < (i : Int) := by omega
       have e1 : IntKind.i64.wrap ((i : Int) - 1) = ((i - 1 : Nat) : Int) := by rw [IntWalk.i64_in _ (by omega)]; omega
       obtain ⟨j, hj⟩ : ∃ j, j = i - 1 := ⟨_, rfl⟩
       rw [← hj] at e1
       have HJ := Aside0.mk hj
       have hjN : j < N := by omega
       have hiN : i < N := by omega
       clear hj
       go_wp2_with (go_at_call 84; refine (join_c HV.out HP.out HO.out (by omega) j i hjN hiN).mono ?_; rintro e w5 ⟨p1, rfl, a1, a2, a3⟩; have HV5 := Aside0.mk a1; have HP5 : Aside0 (PF N (strayF (l.map lkOf) n r (i + 1)) p1) := ⟨by rw [HST.out, ← HJ.out]; exact a2⟩; have HG5 := Aside0.mk a3; clear a1 a2 a3)
       exact ⟨⟨i + 1, p1, by go_num, by omega, ⟨HW.out.grown HG5.out hne⟩, HV5, HP5, ⟨by rw [HST.out]; exact HO.out.merge _ _ (by omega) hiN⟩, ⟨Kd.R_grown HB0.out HG5.out (fun q hq e => HNL.out (by rw [← hq]; exact Option.some.inj e))⟩, ⟨World.grownBy.trans HG.out HG5.out⟩⟩, by simp [intOf]; omega⟩
      ·have HST : Aside0 (strayF (l.map lkOf) n r (i + 1) = merge (strayF (l.map lkOf) n r i) i (i + 1)) := ⟨by show (if linkedB (l.map lkOf) i then _ else _) = _; rw [if_neg (by rw [← HBB.out]; simp), if_neg (by rw [← HFE.out]; exact hfi)]⟩
       have hfI : ¬ (f : Int) < (i : Int) := by omega
       have hfI2 : (i : Int) ≤ (f : Int) := by omega
       have hjN : i + 1 < N := by omega
       have hiN : i < N := by omega
       have e1 : IntKind.i64.wrap ((i : Int) + 1) = ((i + 1 : Nat) : Int) := by rw [IntWalk.i64_in _ (by omega)]; omega
       go_wp2_with (go_at_call 84; refine (join_c HV.out HP.out HO.out (by omega) i (i + 1) hiN hjN).mono ?_; rintro e w5 ⟨p1, rfl, a1, a2, a3⟩; have HV5 := Aside0.mk a1; have HP5 : Aside0 (PF N (strayF (l.map lkOf) n r (i + 1)) p1) := ⟨by rw [HST.out]; exact a2⟩; have HG5 := Aside0.mk a3; clear a1 a2 a3)
       exact ⟨⟨i + 1, p1, by go_num, by omega, ⟨HW.out.grown HG5.out hne⟩, HV5, HP5, ⟨by rw [HST.out]; exact HO.out.merge _ _ hiN hjN⟩, ⟨Kd.R_grown HB0.out HG5.out (fun q hq e => HNL.out (by rw [← hq]; exact Option.some.inj e))⟩, ⟨World.grownBy.trans HG.out HG5.out⟩⟩, by simp [intOf]; omega⟩
    ·have ei : i = n := by omega
     subst ei
     go_wp2_with fail
     go_end0
     exact ⟨rfl, p, HV.out, HP.out, HG.out⟩
end Go.Proofs.Ytohhobcipfmkbaa.CFin
namespace Go.Proofs.Ytohhobcipfmkbaa.CFin
open Go.RowKit Go.Maps Go.Proofs.YtohhobcipfmkbaaW.PrintWords Go.Proofs.YtohhobcipfmkbaaW.PrintMore Go.Proofs.YtohhobcipfmkbaaW.PrintLast Go.Proofs.Ytohhobcipfmkbaa.U Go.Proofs.Ytohhobcipfmkbaa.PClusterFinest Go.Proofs.Ytohhobcipfmkbaa.UFinest Go.Proofs.Ytohhobcipfmkbaa.UFinEv
theorem keyed3 : Keyed Try.prog 3 := int_keyed Try.underlying3
def MV (w : World) (b n : Nat) (f : Nat → Nat) : Prop := ∃ D : DataW Unit, IsMap D ∧ w.ownsMap Try.prog 3 (plainElem Try.prog 3) b n D ∧ ∀ v : Nat, D.atKey (.int .i64 v) (.lit (.int .i64 0)) = .lit (.int .i64 (f v : Nat))
theorem MV.made (w : World) : MV (w.alloc (.map #[] 0)) w.heap.size 0 (fun _ => 0) := ⟨.map [], isMap_empty, World.ownsMap_made w _ _ _, fun v => rfl⟩
theorem MV.kept {w w' : World} {b n : Nat} {f : Nat → Nat} (h : MV w b n f) {row : Option Nat} (hg : w.grownBy w' row) (hne : some b ≠ row) : MV w' b n f := by
 obtain ⟨D, h1, h2, h3⟩ := h
 exact ⟨D, h1, h2.kept hg hne, h3⟩
theorem MV.lt {w : World} {b n : Nat} {f : Nat → Nat} (h : MV w b n f) : b < w.heap.size := by
 obtain ⟨D, h1, h2, h3⟩ := h
 exact h2.lt
theorem key3 (v : Nat) (hv : v ≤ 1000000) : keyOf Try.prog 3 (.int .i64 v) = some (.int .i64 v) := by
 simp [keyOf, mapKey, Try.underlying3, Lit.wf]
 have : IntKind.i64.min = -9223372036854775808 := by decide
 omega
set_option maxRecDepth 100000 in
theorem MV.lookup {w : World} {b n : Nat} {f : Nat → Nat} (h : MV w b n f) (v : Nat) (hv : v ≤ 1000000) (hz : (zeroValue 3).run Try.prog w = .ok (.int .i64 0) w) : (Instr.lookup 112 (.map (some b)) (.int .i64 v) false).run Try.prog w = .ok (.int .i64 (f v : Nat)) w := by
 obtain ⟨D, h1, h2, h3⟩ := h
 obtain ⟨c, hr, hc, _⟩ := h2.lookup_int keyed3 Try.underlying112 Try.underlying3 hz (key3 v hv)
 rw [h3 v] at hc
 injection hc with hc
 injection hc with _ hc
 rw [hc]
 exact hr
theorem MV.put {w w' : World} {b n v i : Nat} {f : Nat → Nat} {D : DataW Unit} (h1 : IsMap D) (h3 : ∀ v : Nat, D.atKey (.int .i64 v) (.lit (.int .i64 0)) = .lit (.int .i64 (f v : Nat))) (hv : v ≤ 1000000) (h2 : w'.ownsMap Try.prog 3 (plainElem Try.prog 3) b (n + 1) (D.put (.int .i64 v) (.lit (.int .i64 i)))) : MV w' b (n + 1) (fun x => if x = v then i else f x) := by
 refine ⟨_, h1.put _ _, h2, fun x => ?_⟩
 by_cases e : x = v
 ·subst e
  rw [atKey_put_same h1 (keyed3.key (key3 x hv))]
  dsimp only
  rw [if_pos rfl]
 ·rw [atKey_put_other (fun h => e (by injection h with _ h; omega))]
  dsimp only
  rw [if_neg e]
  exact h3 x
theorem elem3 (i : Nat) (hi : i ≤ 1000000) : (plainElem Try.prog 3 (.int .i64 i) : Option (DataW Unit × List MemPlace)) = some (.lit (.int .i64 i), []) := plainElem_int Try.underlying3 (by
 simp [Lit.wf]
 have : IntKind.i64.min = -9223372036854775808 := by decide
 omega)
theorem zero3 (w : World) : (zeroValue 3).run Try.prog w = .ok (.int .i64 0) w := by
 obtain ⟨i, hi, hz⟩ := Option.map_eq_some_iff.1 info3
 simp only [Prod.mk.injEq] at hz
 simp [zeroValue, typeInfo, hi, hz.1]
end Go.Proofs.Ytohhobcipfmkbaa.CFin
namespace Go.Proofs.Ytohhobcipfmkbaa.CFin
open Go.RowKit Go.Maps Go.Proofs.YtohhobcipfmkbaaW.PrintWords Go.Proofs.YtohhobcipfmkbaaW.PrintMore Go.Proofs.YtohhobcipfmkbaaW.PrintLast Go.Proofs.Ytohhobcipfmkbaa.U Go.Proofs.Ytohhobcipfmkbaa.PClusterFinest Go.Proofs.Ytohhobcipfmkbaa.UFinest Go.Proofs.Ytohhobcipfmkbaa.UFinEv
theorem labOk_closeIn {N : Nat} (last : Nat → Nat) (i : Nat) (hi : i < N) (hl : ∀ v, last v < N) (f : Nat) : ∀ (k : Nat) (r : Lab) (t : Bool), LabOk N r → LabOk N (closeIn last i f k r t).1 := by
 induction f with
 | zero => intro k r t h; exact h
 | succ f ih =>
  intro k r t h
  unfold closeIn
  split
  ·rename_i hk
   exact ih _ _ _ (h.merge _ _ hi (Nat.lt_of_le_of_lt hk (hl _)))
  ·exact h
theorem labOk_closeTo {N : Nat} (last : Nat → Nat) (lo hi : Nat) (hN : hi ≤ N) (hl : ∀ v, last v < N) (k : Nat) (hk : lo + k ≤ hi) (s : Lab × Bool) (h : LabOk N s.1) : LabOk N (closeTo last lo hi k s).1 := by
 induction k with
 | zero => exact h
 | succ k ih => exact labOk_closeIn last _ (by omega) hl _ _ _ _ (ih (by omega))
theorem labOk_closeF {N : Nat} {r : Lab} (lo hi : Nat) (hlh : lo < hi) (hN : hi ≤ N) (h : LabOk N r) : LabOk N (closeF r lo hi).1 :=
 labOk_closeTo _ lo hi hN (fun v => Nat.lt_of_lt_of_le (lastF_lt r lo hi hlh v) hN) _ (by omega) _ h
theorem MV.cast {w : World} {b n : Nat} {f f' : Nat → Nat} (h : MV w b n f) (e : ∀ v, f v = f' v) : MV w b n f' := by
 obtain rfl : f = f' := funext e
 exact h
theorem grown_new {w a b : World} {g gm : Nat} (h1 : w.grownBy a (some g)) (h2 : a.grownBy b (some gm)) (hgm : w.heap.size ≤ gm) : w.grownBy b (some g) :=
 ⟨h2.os.trans h1.os, h2.tape.trans h1.tape, h2.output.trans h1.output, Nat.le_trans h1.size h2.size, fun k hk hne => (h2.block k (Nat.lt_of_lt_of_le hk h1.size) (fun e => by have := Option.some.inj e; omega)).trans (h1.block k hk hne)⟩
theorem MV.last {w' : World} {b n x i lo j : Nat} {r : Lab} {D : DataW Unit} (hx : x = r i) (hi : i = lo + j) (hv : x ≤ 1000000) (h1 : IsMap D) (h3 : ∀ v : Nat, D.atKey (.int .i64 v) (.lit (.int .i64 0)) = .lit (.int .i64 (lastF r lo j v : Nat))) (h2 : w'.ownsMap Try.prog 3 (plainElem Try.prog 3) b (n + 1) (D.put (.int .i64 x) (.lit (.int .i64 i)))) : MV w' b (n + 1) (lastF r lo (j + 1)) := by
 refine (MV.put (w := w') h1 h3 hv h2).cast fun v => ?_
 subst hx hi
 show (if v = r (lo + j) then lo + j else lastF r lo j v) = (if r (lo + j) = v then lo + j else lastF r lo j v)
 simp only [eq_comm]
set_option maxRecDepth 100000 in
set_option maxHeartbeats 1000000 in
theorem close_c {w : World} {base B g n m N cap : Nat} {p : List Int} {r : Lab} (hW : WV w B g n m N cap) (h : LI w base g N cap p) (hne : B ≠ g) (hp : PF N r p) (ho : LabOk N r) (hN : N ≤ 100000) (lo hi : Nat) (hlh : lo < hi) (hh : hi ≤ N) :
 Calls Try.prog 62 #[.pointer (some ⟨B, 0, none⟩), .agg #[.int .i64 lo, .int .i64 hi]] w fun e w' => e = .returned (.bool (closeF r lo hi).2) ∧ ∃ p', LI w' base g N cap p' ∧ PF N (closeF r lo hi).1 p' ∧ w.grownBy w' (some g) := by
 have HW := Aside0.mk hW
 have HV := Aside0.mk h
 have HP := Aside0.mk hp
 have HO := Aside0.mk ho
 have hgw := h.ltw
 clear hW h hp ho
 have hmm := @run_makeMap Try.prog
 go_enter Try.func62, Try.ntmps62
 go_wp2_with (first | ((with_reducible refine gate_dst (N := 3) rfl ?_); refine box_event ?hg (N := 3) ?hd (cs := #[.int .i64 lo, .int .i64 hi]) (t := 33) ?hr ?_; (case hd => rfl); (case hg => rfl); (case hr => first | (go_simp; done) | (go_simp; rfl)); intro gb hg w5 hbox hb; have HW5 := Aside0.mk ((HW.out.below hb).below (below_alloc (Below.refl _ _) (.map #[] 0))); have HV5 := Aside0.mk ((HV.out.below hb).below (below_alloc (Below.refl _ _) (.map #[] 0))); have HX : Aside0 ((w5.alloc (.map #[] 0)).heap[gb]? = _) := ⟨(World.grownBy_alloc w5 (.map #[] 0) none |>.block _ (blk_lt hbox) (by simp)).trans hbox⟩; have HGB : Aside0 (gb ≠ g) := ⟨by omega⟩; have HG5 : Aside0 (w.grownBy (w5.alloc (.map #[] 0)) (some g)) := ⟨World.grownBy.trans (below_grownBy hb (some g)) (World.grownBy_alloc _ _ _)⟩; have HM5 : Aside0 (MV (w5.alloc (.map #[] 0)) w5.heap.size 0 (lastF r lo 0)) := ⟨MV.made w5⟩; have HMG : Aside0 (w5.heap.size ≠ g) := ⟨by have := (HV.out.below hb).ltw; omega⟩; have HMW : Aside0 (B ≠ w5.heap.size) := ⟨by have := blk_lt (HW.out.below hb); omega⟩; have HMS : Aside0 (w.heap.size ≤ w5.heap.size) := ⟨hb.size⟩; have HMB : Aside0 (w5.heap.size ≠ gb) := ⟨by have := blk_lt hbox; omega⟩; have b0 : (w5.alloc (.map #[] 0)).cell? ⟨gb, 0, none⟩ = some (.int .i64 lo) := (blk_cell HX.out 0).trans rfl; clear hg hbox hb HW HV))
 generalize w5.heap.size = gm at *
 clear hmm
 go_loopw [6] (fun v wr => ∃ (j : Nat) (p : List Int), v = .int .i64 ((lo + j : Nat) : Int) ∧ lo + j ≤ hi ∧ Aside0 (WV wr B g n m N cap) ∧ Aside0 (LI wr base g N cap p) ∧ Aside0 (PF N r p) ∧ Aside0 (MV wr gm j (lastF r lo j)) ∧ Aside0 (wr.heap[gb]? = some (.cells #[.int .i64 lo, .int .i64 hi] 33 (0, 0))) ∧ Aside0 (w.grownBy wr (some g))) (fun v _ => hi - (intOf v).toNat)
 case atStart => exact ⟨0, p, rfl, by omega, HW5, HV5, HP, HM5, HX, HG5⟩
 case round =>
  clear HW5 HV5 HP HM5 HX HG5 b0
  obtain ⟨j, p, rfl, hj, HW, HV, HP, HM, HX, HG⟩ := hrel
  have b1 : wr.cell? ⟨gb, 1, none⟩ = some (.int .i64 hi) := (blk_cell HX.out 1).trans rfl
  have d0 := HW.out.c0
  by_cases hlt : lo + j < hi
  ·obtain ⟨i, hi'⟩ : ∃ i, i = lo + j := ⟨_, rfl⟩
   rw [← hi'] at hlt ⊢
   have hiI : (i : Int) < (hi : Int) := by omega
   have hiN : i < N := by omega
   obtain ⟨x, hx⟩ : ∃ x, x = r i := ⟨_, rfl⟩
   have HXE := Aside0.mk hx
   have hxN : x < N := by have := HO.out.le i hiN; omega
   have HIE := Aside0.mk hi'
   clear hx hi'
   go_wp2_with (first | (go_at_call 86; refine (find_c HV.out HP.out (by omega) i hiN).mono ?_; rintro e w6 ⟨p1, rfl, a1, a2, a3⟩; rw [← HXE.out]; have HV6 := Aside0.mk a1; have HP6 := Aside0.mk a2; have HG6 : Aside0 (wr.grownBy w6 (some g)) := ⟨a3⟩; clear a1 a2 a3 HV HP) | (at_mapUpdate; obtain ⟨D, m1, m2, m3⟩ := HM.out; refine wpList_mapUpdate_own _ rfl _ _ _ 112 rfl 3 3 keyed3 Try.underlying112 (plainElem Try.prog 3) gm j D rfl (m2.kept HG6.out (by intro e; exact HMG.out (Option.some.inj e))) (by unfold maxLen; omega) _ _ (.int .i64 x) rfl rfl (key3 x (by omega)) _ [] (elem3 i (by omega)) ?_; intro w7 m4 m5; have HM7 := Aside0.mk (MV.last HXE.out HIE.out (by omega) m1 m3 m4); have HG7 : Aside0 (w6.grownBy w7 (some gm)) := ⟨m5⟩; clear m1 m2 m3 m4 m5 HM))
   have HW7 : Aside0 (WV w7 B g n m N cap) := ⟨(HW.out.grown HG6.out hne).grown HG7.out HMW.out⟩
   have HV7 : Aside0 (LI w7 base g N cap p1) := ⟨HV6.out.grown HG7.out HMG.out.symm⟩
   have HX7 : Aside0 (w7.heap[gb]? = some (.cells #[.int .i64 lo, .int .i64 hi] 33 (0, 0))) := ⟨(HG7.out.block _ (Nat.lt_of_lt_of_le (blk_lt HX.out) HG6.out.size) (fun e => HMB.out (Option.some.inj e).symm)).trans ((HG6.out.block _ (blk_lt HX.out) (fun e => HGB.out (Option.some.inj e))).trans HX.out)⟩
   have HG8 : Aside0 (w.grownBy w7 (some g)) := ⟨grown_new (World.grownBy.trans HG.out HG6.out) HG7.out HMS.out⟩
   exact ⟨⟨j + 1, p1, by have := HIE.out; go_num, by have := HIE.out; omega, HW7, HV7, HP6, HM7, HX7, HG8⟩, by simp [intOf]; omega⟩
  ·obtain ⟨t, ht⟩ : ∃ t, t = hi - lo := ⟨_, rfl⟩
   have ejt : j = t := by omega
   subst ejt
   have ej : lo + j = hi := by omega
   rw [ej]
   obtain ⟨last, hlast⟩ : ∃ last, last = lastF r lo j := ⟨_, rfl⟩
   have HM2 : Aside0 (MV wr gm j last) := ⟨by rw [hlast]; exact HM.out⟩
   have HLB : Aside0 (∀ v, last v < hi) := ⟨fun v => by rw [hlast, ht]; exact lastF_lt r lo hi hlh v⟩
   have HCF : Aside0 (closeF r lo hi = closeTo last lo hi (hi - lo) (r, false)) := ⟨by rw [hlast, ht]; rfl⟩
   clear hlast ht HM hlt
   have b0 := (blk_cell HX.out 0).trans rfl
   go_wp2_with fail
   go_loopw [7, 8] (fun v7 v8 wr => ∃ (q : Nat) (p : List Int) (r1 : Lab) (t1 : Bool), v8 = .int .i64 ((lo + q : Nat) : Int) ∧ v7 = .bool t1 ∧ lo + q ≤ hi ∧ Aside0 (closeTo last lo hi q (r, false) = (r1, t1)) ∧ Aside0 (WV wr B g n m N cap) ∧ Aside0 (LI wr base g N cap p) ∧ Aside0 (PF N r1 p) ∧ Aside0 (LabOk N r1) ∧ Aside0 (MV wr gm j last) ∧ Aside0 (wr.heap[gb]? = some (.cells #[.int .i64 lo, .int .i64 hi] 33 (0, 0))) ∧ Aside0 (w.grownBy wr (some g))) (fun _ v _ => hi - (intOf v).toNat)
   case atStart => exact ⟨0, p, r, false, rfl, rfl, by omega, ⟨rfl⟩, HW, HV, HP, HO, HM2, HX, HG⟩
   case round =>
    clear HW HV HP HO HM2 HX HG b0 b1 d0
    obtain ⟨q, p, r1, t1, rfl, rfl, hq, HS, HW, HV, HP, HO, HM, HX, HG⟩ := hrel
    have b1 : wr.cell? ⟨gb, 1, none⟩ = some (.int .i64 hi) := (blk_cell HX.out 1).trans rfl
    by_cases hlt : lo + q < hi
    ·obtain ⟨i, hi'⟩ : ∃ i, i = lo + q := ⟨_, rfl⟩
     rw [← hi'] at hlt ⊢
     have hiI : (i : Int) < (hi : Int) := by omega
     have hiN : i < N := by omega
     have HIE := Aside0.mk hi'
     have e1 : IntKind.i64.wrap ((i : Int) + 1) = ((i + 1 : Nat) : Int) := by rw [IntWalk.i64_in _ (by omega)]; omega
     clear hi'
     go_wp2_with fail
     go_loopw [7, 9] (fun v7 v9 wr => ∃ (k f : Nat) (p : List Int) (r2 : Lab) (t2 : Bool), v9 = .int .i64 (k : Int) ∧ v7 = .bool t2 ∧ i < k ∧ k ≤ hi ∧ f + k = hi + i + 2 ∧ Aside0 (closeIn last i f k r2 t2 = closeIn last i (hi + 1) (i + 1) r1 t1) ∧ Aside0 (WV wr B g n m N cap) ∧ Aside0 (LI wr base g N cap p) ∧ Aside0 (PF N r2 p) ∧ Aside0 (LabOk N r2) ∧ Aside0 (MV wr gm j last) ∧ Aside0 (wr.heap[gb]? = some (.cells #[.int .i64 lo, .int .i64 hi] 33 (0, 0))) ∧ Aside0 (w.grownBy wr (some g))) (fun _ v _ => hi + 1 - (intOf v).toNat)
     case atStart => exact ⟨i + 1, hi + 1, p, r1, t1, by go_num, rfl, by omega, by omega, by omega, ⟨rfl⟩, HW, HV, HP, HO, HM, HX, HG⟩
     case round =>
      clear HW HV HP HO HM HX HG b1
      obtain ⟨k, f, p, r2, t2, rfl, rfl, hik, hkh, hf, HC, HW, HV, HP, HO, HM, HX, HG⟩ := hrel
      have d0 := HW.out.c0
      have hkN : k ≤ N := by omega
      obtain ⟨f, rfl⟩ : ∃ f', f = f' + 1 := ⟨f - 1, by omega⟩
      obtain ⟨x, hx⟩ : ∃ x, x = r2 i := ⟨_, rfl⟩
      have hxN : x < N := by have := HO.out.le i hiN; omega
      obtain ⟨z, hz⟩ : ∃ z, z = last x := ⟨_, rfl⟩
      have hzh : z < hi := by rw [hz]; exact HLB.out x
      have hC := HC.out
      rw [closeIn] at hC
      rw [← hx, ← hz] at hC
      have HXE := Aside0.mk hx
      have HZE := Aside0.mk hz
      clear hx hz HC
      by_cases hkz : k ≤ z
      ·rw [if_pos hkz] at hC
       have HC := Aside0.mk hC
       have hkzI : (k : Int) ≤ (z : Int) := by omega
       clear hC
       have hkN2 : k < N := by omega
       go_wp2_with (first | (go_at_call 86; refine (find_c HV.out HP.out (by omega) i hiN).mono ?_; rintro e w6 ⟨p1, rfl, a1, a2, a3⟩; rw [← HXE.out]; have HV6 := Aside0.mk a1; have HP6 := Aside0.mk a2; have HG6 : Aside0 (wr.grownBy w6 (some g)) := ⟨a3⟩; have hlk := (HM.out.kept a3 (fun e => HMG.out (Option.some.inj e))).lookup x (by omega) (zero3 w6); rw [← HZE.out] at hlk; have HW6 := Aside0.mk (HW.out.grown a3 hne); have d06 := HW6.out.c0; clear a1 a2 a3 HV HP) | (go_at_call 84; refine (join_c HV6.out HP6.out HO.out (by omega) i k hiN hkN2).mono ?_; rintro e w7 ⟨p2, rfl, a1, a2, a3⟩; have HV7 := Aside0.mk a1; have HP7 := Aside0.mk a2; have HG7 : Aside0 (wr.grownBy w7 (some g)) := ⟨World.grownBy.trans HG6.out a3⟩; obtain ⟨bb, hbb⟩ : ∃ bb, bb = two r2 i k := ⟨_, rfl⟩; have HBB := Aside0.mk hbb; rw [← hbb]; clear a1 a2 a3 hbb; cases bb))
       ·have HC2 : Aside0 (closeIn last i f (k + 1) (merge r2 i k) t2 = closeIn last i (hi + 1) (i + 1) r1 t1) := ⟨by have := HC.out; rw [← HBB.out] at this; simpa using this⟩
        exact ⟨⟨k + 1, f, p2, _, t2, by go_num, rfl, by omega, by omega, by omega, HC2, ⟨HW.out.grown HG7.out hne⟩, HV7, HP7, ⟨HO.out.merge _ _ hiN hkN2⟩, ⟨HM.out.kept HG7.out (fun e => HMG.out (Option.some.inj e))⟩, ⟨(HG7.out.block _ (blk_lt HX.out) (fun e => HGB.out (Option.some.inj e))).trans HX.out⟩, ⟨World.grownBy.trans HG.out HG7.out⟩⟩, by simp [intOf]; omega⟩
       ·have HC2 : Aside0 (closeIn last i f (k + 1) (merge r2 i k) true = closeIn last i (hi + 1) (i + 1) r1 t1) := ⟨by have := HC.out; rw [← HBB.out] at this; simpa using this⟩
        exact ⟨⟨k + 1, f, p2, _, true, by go_num, rfl, by omega, by omega, by omega, HC2, ⟨HW.out.grown HG7.out hne⟩, HV7, HP7, ⟨HO.out.merge _ _ hiN hkN2⟩, ⟨HM.out.kept HG7.out (fun e => HMG.out (Option.some.inj e))⟩, ⟨(HG7.out.block _ (blk_lt HX.out) (fun e => HGB.out (Option.some.inj e))).trans HX.out⟩, ⟨World.grownBy.trans HG.out HG7.out⟩⟩, by simp [intOf]; omega⟩
      ·rw [if_neg hkz] at hC
       have HS2 : Aside0 (closeTo last lo hi (q + 1) (r, false) = (r2, t2)) := ⟨by rw [closeTo, HS.out, ← HIE.out]; exact hC.symm⟩
       have hkzI : ¬ (k : Int) ≤ (z : Int) := by omega
       clear hC
       go_wp2_with (first | (go_at_call 86; refine (find_c HV.out HP.out (by omega) i hiN).mono ?_; rintro e w6 ⟨p1, rfl, a1, a2, a3⟩; rw [← HXE.out]; have HV6 := Aside0.mk a1; have HP6 := Aside0.mk a2; have HG6 : Aside0 (wr.grownBy w6 (some g)) := ⟨a3⟩; have hlk := (HM.out.kept a3 (fun e => HMG.out (Option.some.inj e))).lookup x (by omega) (zero3 w6); rw [← HZE.out] at hlk; clear a1 a2 a3 HV HP))
       exact ⟨⟨q + 1, p1, r2, t2, by have := HIE.out; go_num, rfl, by have := HIE.out; omega, HS2, ⟨HW.out.grown HG6.out hne⟩, HV6, HP6, HO, ⟨HM.out.kept HG6.out (fun e => HMG.out (Option.some.inj e))⟩, ⟨(HG6.out.block _ (blk_lt HX.out) (fun e => HGB.out (Option.some.inj e))).trans HX.out⟩, ⟨World.grownBy.trans HG.out HG6.out⟩⟩, by simp [intOf]; omega⟩
    ·have eq : lo + q = hi := by omega
     have eqt : q = hi - lo := by omega
     have HS2 : Aside0 (closeF r lo hi = (r1, t1)) := ⟨by rw [HCF.out, ← eqt]; exact HS.out⟩
     rw [eq]
     clear eqt
     go_wp2_with fail
     go_ret
     exact ⟨by rw [HS2.out]; rfl, p, HV.out, by rw [HS2.out]; exact HP.out, HG.out⟩
end Go.Proofs.Ytohhobcipfmkbaa.CFin
end
section
namespace Go.Proofs.Ytohhobcipfmkbaa.CFin
open Go.RowKit Go.Proofs.YtohhobcipfmkbaaW.PrintWords Go.Proofs.YtohhobcipfmkbaaW.PrintMore Go.Proofs.YtohhobcipfmkbaaW.PrintLast Go.Proofs.Ytohhobcipfmkbaa.U Go.Proofs.Ytohhobcipfmkbaa.PClusterFinest Go.Proofs.Ytohhobcipfmkbaa.UFinest Go.Proofs.Ytohhobcipfmkbaa.UFinEv
theorem info33 : (Try.prog.info? 33).map (fun i => (i.zero, i.size, i.bytes)) = some (some (.agg #[(.int .i64 0), (.int .i64 0)]), 2, 16) := by kernel_rfl
abbrev cells33 (p : S33) : Obj := .cells #[.int .i64 p.f0, .int .i64 p.f1] 33 (0, 0)
theorem one33 {W : World} {b : Nat} {p : S33} (h : W.heap[b]? = some (cells33 p)) : Kd.C k33 W (some ⟨b, 0, none⟩) 1 [p] := by
 refine ⟨rfl, by simp, fun hn => ⟨_, rfl, fun j x hj => ?_⟩⟩
 obtain ⟨hl, hx⟩ := List.getElem?_eq_some_iff.1 hj
 obtain rfl : j = 0 := by simpa using hl
 obtain rfl : p = x := by simpa using hx
 refine ⟨_, rfl, k33_mk W p, fun i u hu => ?_⟩
 have ea : (⟨b, 0, none⟩ : Addr).add (0 * k33.sz + i) = ⟨b, i, none⟩ := by rw [add_plain, Nat.zero_mul, Nat.zero_add]
 rw [ea, blk_cell h i]
 match i, hu with
 | 0, hu => exact hu
 | 1, hu => exact hu
structure PR (W0 W : World) (base : Nat) (G : Nat → Prop) (p q : S33) (v1 : Value) (xs : List S33) (v2 : Value) (ys : List S33) (c1 c2 : Option Nat) : Prop where
 r1 : Kd.R k33 33 W base (fun k => some k = v1.ownBlock) v1 xs
 r2 : Kd.R k33 33 W base (fun k => some k = v2.ownBlock) v2 ys
 ne : ∀ k, v1.ownBlock = some k → v2.ownBlock ≠ some k
 sz : W0.heap.size ≤ W.heap.size
 lt : ∀ k, G k → k < W0.heap.size
 keep : ∀ k, G k → W.heap[k]? = W0.heap[k]?
 n1 : ∀ k, G k → v1.ownBlock ≠ some k
 n2 : ∀ k, G k → v2.ownBlock ≠ some k
 b1 : ∀ b, c1 = some b → W.heap[b]? = some (cells33 p) ∧ v1.ownBlock ≠ some b ∧ v2.ownBlock ≠ some b
 b2 : ∀ b, c2 = some b → W.heap[b]? = some (cells33 q) ∧ v1.ownBlock ≠ some b ∧ v2.ownBlock ≠ some b
theorem PR.symm {W0 W : World} {base : Nat} {G : Nat → Prop} {p q : S33} {v1 v2 : Value} {xs ys : List S33} {c1 c2 : Option Nat} (h : PR W0 W base G p q v1 xs v2 ys c1 c2) : PR W0 W base G q p v2 ys v1 xs c2 c1 :=
 ⟨h.r2, h.r1, fun k h1 h2 => h.ne k h2 h1, h.sz, h.lt, h.keep, h.n2, h.n1, fun b hb => ⟨(h.b2 b hb).1, (h.b2 b hb).2.2, (h.b2 b hb).2.1⟩, fun b hb => ⟨(h.b1 b hb).1, (h.b1 b hb).2.2, (h.b1 b hb).2.1⟩⟩
theorem PR.drew {W0 W : World} {base : Nat} {G : Nat → Prop} {p q : S33} {v1 v2 : Value} {xs ys : List S33} {c1 c2 : Option Nat} (h : PR W0 W base G p q v1 xs v2 ys c1 c2) : PR W0 W.drew base G p q v1 xs v2 ys c1 c2 :=
 ⟨Kd.R_drew h.r1, Kd.R_drew h.r2, h.ne, h.sz, h.lt, h.keep, h.n1, h.n2, h.b1, h.b2⟩
theorem PR.build {W0 W : World} {base : Nat} {G : Nat → Prop} {p q : S33} {v1 v2 : Value} {xs ys : List S33} {c2 : Option Nat} (h : PR W0 W base G p q v1 xs v2 ys none c2) : PR W0 (W.alloc (cells33 p)) base G p q v1 xs v2 ys (some W.heap.size) c2 := by
 have hg := World.grownBy_alloc W (cells33 p) none
 have hold : ∀ k, k < W.heap.size → (W.alloc (cells33 p)).heap[k]? = W.heap[k]? := fun k hk => hg.block k hk (by simp)
 refine ⟨Kd.R_alloc h.r1 _, Kd.R_alloc h.r2 _, h.ne, Nat.le_trans h.sz hg.size, h.lt, fun k hk => (hold k (Nat.lt_of_lt_of_le (h.lt k hk) h.sz)).trans (h.keep k hk), h.n1, h.n2, fun b hb => ?_, fun b hb => ?_⟩
 ·obtain rfl := Option.some.inj hb
  exact ⟨(MapKept.heap_alloc W _).1, fun e => by have := Kd.R_lt h.r1 _ e; omega, fun e => by have := Kd.R_lt h.r2 _ e; omega⟩
 ·obtain ⟨h1, h2⟩ := h.b2 b hb
  exact ⟨(hold b (blk_lt h1)).trans h1, h2⟩
theorem PR.append {W0 w1 W : World} {base : Nat} {G : Nat → Prop} {p q : S33} {v1 v2 v : Value} {xs ys : List S33} {c1 c2 : Option Nat} (h : PR W0 W base G p q v1 xs v2 ys c1 c2)
 (hr : Kd.R k33 33 w1 base (fun _ => True) v (xs ++ [p])) (hg : W.grownBy w1 v1.ownBlock) (hat : v.ownBlock = v1.ownBlock ∨ ∃ b, v.ownBlock = some b ∧ W.heap.size ≤ b) : PR W0 w1 base G p q v (xs ++ [p]) v2 ys none c2 := by
 have hv : ∀ k, k < W.heap.size → v1.ownBlock ≠ some k → v.ownBlock ≠ some k := fun k hk hne e => by
  rcases hat with h' | ⟨b, hb, hb2⟩
  ·exact hne (h'.symm.trans e)
  ·rw [hb] at e; have := Option.some.inj e; omega
 refine ⟨Kd.R_mono (Kd.R_tight rfl hr) (fun _ h => h), Kd.R_grown h.r2 hg (fun k hk e => h.ne k e.symm hk.symm), fun k h1 h2 => hv k (Kd.R_lt h.r2 k h2) (fun e => h.ne k e h2) h1, Nat.le_trans h.sz hg.size, h.lt, fun k hk => (hg.block k (Nat.lt_of_lt_of_le (h.lt k hk) h.sz) (fun e => h.n1 k hk e.symm)).trans (h.keep k hk), fun k hk => hv k (Nat.lt_of_lt_of_le (h.lt k hk) h.sz) (h.n1 k hk), h.n2, fun b hb => (by cases hb), fun b hb => ?_⟩
 obtain ⟨h1, h2, h3⟩ := h.b2 b hb
 exact ⟨(hg.block b (blk_lt h1) (fun e => h2 e.symm)).trans h1, hv b (blk_lt h1) h2, h3⟩
theorem PR.start {W : World} {base : Nat} {G : Nat → Prop} {p q : S33} {v1 v2 : Value} {xs ys : List S33} (h1 : Kd.R k33 33 W base (fun k => some k = v1.ownBlock) v1 xs) (h2 : Kd.R k33 33 W base (fun k => some k = v2.ownBlock) v2 ys) (hne : ∀ k, v1.ownBlock = some k → v2.ownBlock ≠ some k)
 (hlt : ∀ k, G k → k < W.heap.size) (n1 : ∀ k, G k → v1.ownBlock ≠ some k) (n2 : ∀ k, G k → v2.ownBlock ≠ some k) : PR W W base G p q v1 xs v2 ys none none :=
 ⟨h1, h2, hne, Nat.le_refl _, hlt, fun _ _ => rfl, n1, n2, fun b hb => (by cases hb), fun b hb => (by cases hb)⟩
theorem made33 {W : World} {base : Nat} (n : Nat) (hn : n ≤ 1000000) (hb : base ≤ W.heap.size) : ∃ w', (Instr.makeSlice 49 (.int .i64 0) (.int .i64 (n : Int))).run Try.prog W = .ok (.slice (some ⟨W.heap.size, 0, none⟩) 0 n) w' ∧ Kd.R k33 33 w' base (fun k => k = W.heap.size) (.slice (some ⟨W.heap.size, 0, none⟩) 0 n) [] ∧ W.grownBy w' none := by
 obtain ⟨i0, hi, hzz⟩ := Option.map_eq_some_iff.1 info33
 simp only [Prod.mk.injEq] at hzz
 obtain ⟨hz0, hz1, hz2⟩ := hzz
 obtain ⟨w', h1, h2, h3⟩ := run_make_own (P := Try.prog) W base 49 33 i0 _ 2 Try.underlying49 hi hz0 hz1 .i64 .i64 n (by rw [hz2]; omega) (by unfold maxLen; omega) hb
 exact ⟨w', h1, ⟨fun k hk => by simpa [Value.ownBlock] using hk.symm, [], h2, Reps.none _ _⟩, h3⟩
end Go.Proofs.Ytohhobcipfmkbaa.CFin
namespace Go.Proofs.Ytohhobcipfmkbaa.CFin
open Go.RowKit Go.Proofs.YtohhobcipfmkbaaW.PrintWords Go.Proofs.YtohhobcipfmkbaaW.PrintMore Go.Proofs.YtohhobcipfmkbaaW.PrintLast Go.Proofs.Ytohhobcipfmkbaa.U Go.Proofs.Ytohhobcipfmkbaa.PClusterFinest Go.Proofs.Ytohhobcipfmkbaa.UFinest Go.Proofs.Ytohhobcipfmkbaa.UFinEv
set_option maxRecDepth 100000 in
set_option maxHeartbeats 2000000 in
theorem sides_c {w : World} {v : Value} {l : List S45} (h : SLk k45 w v l) (hl : l.length ≤ 1000000) :
 Calls Try.prog 52 #[v] w fun e w' => ∃ u1 u2, e = .returned (.tuple #[u1, u2]) ∧ Kd.R k33 33 w' w.heap.size (fun k => some k = u1.ownBlock) u1 (l.map (·.f0)) ∧ Kd.R k33 33 w' w.heap.size (fun k => some k = u2.ownBlock) u2 (l.map (·.f1)) ∧ (∀ k, u1.ownBlock = some k → u2.ownBlock ≠ some k) ∧ Below w.heap.size w w' := by
 obtain ⟨A, c, rfl, hcc, hC⟩ := h
 have HC := Aside0.mk hC
 have HL := Aside0.mk hl
 clear hC hcc
 go_enter Try.func52, Try.ntmps52
 go_wp2_with fail
 refine start_ (n := 8) (S := (fun W => True)) (ds := []) #[false, false, false, false, false, false, false, false] (by kernel_rfl) (by kernel_rfl) (by rfl) trivial (fun hS0 => ?_)
 refine pure_ (i := 0) (N := (some 8)) (v := ?_) (a' := ?_) #[true, false, false, false, false, false, false, false] rfl rfl (by kernel_rfl) (fun _ _ _ h => h) (Or.inl ⟨by rfl, ?_⟩) ?_ ?_
 rotate_left
 ·intro w'
  go_simp
  with_reducible rfl
 rotate_left
 ·simp only [Act.put, List.setIfInBounds_toArray, List.set_cons_zero, List.set_cons_succ]
  rfl
 refine pure_ (i := 1) (N := (some 9)) (v := ?_) (a' := ?_) #[true, true, false, false, false, false, false, false] rfl rfl (by kernel_rfl) (fun _ _ _ h => h) (Or.inl ⟨by rfl, ?_⟩) ?_ ?_
 rotate_left
 ·intro w'
  go_simp
  with_reducible rfl
 rotate_left
 ·simp only [Act.put, List.setIfInBounds_toArray, List.set_cons_zero, List.set_cons_succ]
  rfl
 refine pure_ (i := 3) (N := (some 11)) (v := ?_) (a' := ?_) #[true, true, false, true, false, false, false, false] rfl rfl (by kernel_rfl) (fun _ _ _ h => h) (Or.inl ⟨by rfl, ?_⟩) ?_ ?_
 rotate_left
 ·intro w'
  go_simp
  with_reducible rfl
 rotate_left
 ·simp only [Act.put, List.setIfInBounds_toArray, List.set_cons_zero, List.set_cons_succ]
  rfl
 refine pure_ (i := 4) (N := (some 12)) (v := ?_) (a' := ?_) #[true, true, false, true, true, false, false, false] rfl rfl (by kernel_rfl) (fun _ _ _ h => h) (Or.inl ⟨by rfl, ?_⟩) ?_ ?_
 rotate_left
 ·intro w'
  go_simp
  with_reducible rfl
 rotate_left
 ·simp only [Act.put, List.setIfInBounds_toArray, List.set_cons_zero, List.set_cons_succ]
  rfl
 clear hS0
 refine join_ (σ := Nat × Nat) 1 #[true, true, true, true, true, true, true, false] (fun s => [(10, .slice (some ⟨s.1, 0, none⟩) 0 l.length), (13, .slice (some ⟨s.2, 0, none⟩) 0 l.length), (4, .slice (some ⟨s.1, 0, none⟩) 0 l.length)]) (fun s w' => Below w.heap.size w w' ∧ Kd.R k33 33 w' w.heap.size (fun k => k = s.1) (.slice (some ⟨s.1, 0, none⟩) 0 l.length) [] ∧ Kd.R k33 33 w' w.heap.size (fun k => k = s.2) (.slice (some ⟨s.2, 0, none⟩) 0 l.length) [] ∧ s.1 ≠ s.2) ?_ (fun hcont => ?_)
 rotate_left
 ·refine two_ (i := 2) (j := 5) (Ni := some 10) (Nj := some 13) #[true, true, true, true, true, false, false, false] #[true, true, false, true, true, true, false, false] rfl rfl rfl rfl (by kernel_rfl) (by decide) (by decide) (fun K hK => ?_) (fun K hK => ?_)
  ·obtain ⟨wA, hr1, hR1, hg1⟩ := made33 (W := w.drew) (base := w.heap.size) l.length HL.out (Nat.le_refl _)
   refine value_ (w1 := wA) (v := .slice (some ⟨w.drew.heap.size, 0, none⟩) 0 l.length) (by rfl) rfl (by unfold execOp; simp [Act.eval, hr1]) ?_
   change K (Act.put _ (some 10) _) _
   refine hK.out _ _ trivial (fun hS0 => ?_)
   clear hK
   refine norm_ (a' := ?_) ?_ ?_
   rotate_left
   ·simp only [Act.put, List.setIfInBounds_toArray, List.set_cons_zero, List.set_cons_succ]
    rfl
   refine pure_ (i := 6) (N := (some 4)) (v := ?_) (a' := ?_) #[true, true, true, true, true, false, true, false] rfl rfl (by kernel_rfl) (fun _ _ _ h => h) (Or.inl ⟨by rfl, ?_⟩) ?_ ?_
   rotate_left
   ·intro w'
    go_simp
    with_reducible rfl
   rotate_left
   ·simp only [Act.put, List.setIfInBounds_toArray, List.set_cons_zero, List.set_cons_succ]
    rfl
   clear hS0
   refine one_ (i := 5) (N := (some 13)) #[true, true, true, true, true, true, true, false] rfl rfl (by kernel_rfl) (by decide) (fun K hK => ?_)
   obtain ⟨wB, hr2, hR2, hg2⟩ := made33 (W := wA) (base := w.heap.size) l.length HL.out (Nat.le_trans (Nat.le_refl _) hg1.size)
   refine value_ (w1 := wB) (v := .slice (some ⟨wA.heap.size, 0, none⟩) 0 l.length) (by rfl) rfl (by unfold execOp; simp [Act.eval, hr2]) ?_
   change K (Act.put _ (some 13) _) _
   refine hK.out _ _ trivial (fun hS0 => ?_)
   clear hK
   have hR1' := Kd.R_grown hR1 hg2 (fun k hk e => by cases e)
   have hlt : w.drew.heap.size < wA.heap.size := Kd.R_lt hR1 w.drew.heap.size (by simp [Value.ownBlock])
   have hbw : Below w.heap.size w wB := (below_drew (Below.refl _ _)).grown (World.grownBy.trans hg1 hg2) (Nat.le_refl _) (fun j hj => by cases hj)
   exact hcont (_, _) wB ⟨hbw, hR1', hR2, fun e => by have : w.drew.heap.size = wA.heap.size := e; omega⟩
  ·obtain ⟨wA, hr1, hR1, hg1⟩ := made33 (W := w.drew) (base := w.heap.size) l.length HL.out (Nat.le_refl _)
   refine value_ (w1 := wA) (v := .slice (some ⟨w.drew.heap.size, 0, none⟩) 0 l.length) (by rfl) rfl (by unfold execOp; simp [Act.eval, hr1]) ?_
   change K (Act.put _ (some 13) _) _
   refine hK.out _ _ trivial (fun hS0 => ?_)
   clear hK
   refine norm_ (a' := ?_) ?_ ?_
   rotate_left
   ·simp only [Act.put, List.setIfInBounds_toArray, List.set_cons_zero, List.set_cons_succ]
    rfl
   clear hS0
   refine one_ (i := 2) (N := (some 10)) #[true, true, true, true, true, true, false, false] rfl rfl (by kernel_rfl) (by decide) (fun K hK => ?_)
   obtain ⟨wB, hr2, hR2, hg2⟩ := made33 (W := wA) (base := w.heap.size) l.length HL.out (Nat.le_trans (Nat.le_refl _) hg1.size)
   refine value_ (w1 := wB) (v := .slice (some ⟨wA.heap.size, 0, none⟩) 0 l.length) (by rfl) rfl (by unfold execOp; simp [Act.eval, hr2]) ?_
   change K (Act.put _ (some 10) _) _
   refine hK.out _ _ trivial (fun hS0 => ?_)
   clear hK
   refine norm_ (a' := ?_) ?_ ?_
   rotate_left
   ·simp only [Act.put, List.setIfInBounds_toArray, List.set_cons_zero, List.set_cons_succ]
    rfl
   refine pure_ (i := 6) (N := (some 4)) (v := ?_) (a' := ?_) #[true, true, true, true, true, true, true, false] rfl rfl (by kernel_rfl) (fun _ _ _ h => h) (Or.inl ⟨by rfl, ?_⟩) ?_ ?_
   rotate_left
   ·intro w'
    go_simp
    with_reducible rfl
   rotate_left
   ·simp only [Act.put, List.setIfInBounds_toArray, List.set_cons_zero, List.set_cons_succ]
    rfl
   have hR1' := Kd.R_grown hR1 hg2 (fun k hk e => by cases e)
   have hlt : w.drew.heap.size < wA.heap.size := Kd.R_lt hR1 w.drew.heap.size (by simp [Value.ownBlock])
   have hbw : Below w.heap.size w wB := (below_drew (Below.refl _ _)).grown (World.grownBy.trans hg1 hg2) (Nat.le_refl _) (fun j hj => by cases hj)
   exact hcont (_, _) wB ⟨hbw, hR2, hR1', fun e => by have : wA.heap.size = w.drew.heap.size := e; omega⟩
 rintro ⟨g1, g2⟩ w3 ⟨hb3, hv1, hv2, hne⟩
 dsimp only [putAll]
 dsimp only at hv1 hv2 hne
 have HB3 := Aside0.mk hb3
 have HV1 := Aside0.mk (Kd.R_tight rfl hv1)
 have HV2 := Aside0.mk (Kd.R_tight rfl hv2)
 have HNE : Aside0 (∀ k, (Value.slice (some ⟨g1, 0, none⟩) 0 l.length).ownBlock = some k → (Value.slice (some ⟨g2, 0, none⟩) 0 l.length).ownBlock ≠ some k) := ⟨fun k h1 h2 => hne ((Option.some.inj h1).trans (Option.some.inj h2).symm)⟩
 clear hb3 hv1 hv2 hne
 refine norm_ (a' := ?_) ?_ ?_
 rotate_left
 ·simp only [Act.put, List.setIfInBounds_toArray, List.set_cons_zero, List.set_cons_succ]
  rfl
 refine pure_ (i := 7) (N := (some 5)) (v := ?_) (a' := ?_) #[true, true, true, true, true, true, true, true] rfl rfl (by kernel_rfl) (fun _ _ _ h => h) (Or.inl ⟨by rfl, ?_⟩) ?_ ?_
 rotate_left
 ·intro w'
  go_simp
  with_reducible rfl
 rotate_left
 ·simp only [Act.put, List.setIfInBounds_toArray, List.set_cons_zero, List.set_cons_succ]
  rfl
 refine done_ (by kernel_rfl) ?_
 have e0 : (0 : Int).toNat = 0 := rfl
 go_wp2_with fail
 go_loopw [4, 5, 16] (fun v4 v5 v wr => ∃ k : Nat, v = .int .i64 (k : Int) ∧ k ≤ l.length ∧ Aside0 (Kd.R k33 33 wr w.heap.size (fun k => some k = v4.ownBlock) v4 ((l.take k).map (·.f0))) ∧ Aside0 (Kd.R k33 33 wr w.heap.size (fun k => some k = v5.ownBlock) v5 ((l.take k).map (·.f1))) ∧ Aside0 (∀ k, v4.ownBlock = some k → v5.ownBlock ≠ some k) ∧ Aside0 (Below w.heap.size w wr)) (fun _ _ v _ => l.length - (intOf v).toNat)
 case atStart => exact ⟨0, rfl, Nat.zero_le _, HV1, HV2, HNE, HB3⟩
 case round =>
  clear HB3 HV1 HV2 HNE e0
  obtain ⟨k, rfl, hk, HR1, HR2, HNE, HB⟩ := hrel
  by_cases hlt : k < l.length
  ·obtain ⟨ad, ead, c0, c1, c2, c3⟩ := at_T45 (Kd.C_below HC.out HB.out) (k : Int) (by omega) (by omega)
   rw [rd45 hlt, Int.toNat_natCast] at c0 c1 c2 c3
   obtain ⟨x, hx⟩ : ∃ x, x = l[k] := ⟨_, rfl⟩
   rw [← hx] at c0 c1 c2 c3
   have HXE := Aside0.mk hx
   have hkI : (k : Int) < (l.length : Int) := by omega
   subst ead
   clear hx
   go_wp2_with (first | ((with_reducible refine gate_dst (N := 7) rfl ?_); refine box_event ?hg (N := 7) ?hd (cs := #[.int .i64 0, .int .i64 0, .int .i64 0, .int .i64 0]) (t := 45) ?hr ?_; (case hd => rfl); (case hg => rfl); (case hr => first | (go_simp; done) | (go_simp; rfl)); intro gb hg w6 hbox hb; have HX6 := Aside0.mk hbox; have HGB := Aside0.mk hg; have HB6 : Aside0 (Below w.heap.size w w6) := ⟨below_step HB.out hb⟩; have HR16 : Aside0 (Kd.R k33 33 w6 w.heap.size (fun k => some k = u4.ownBlock) u4 ((l.take k).map (·.f0))) := ⟨Kd.R_below HR1.out hb⟩; have HR26 : Aside0 (Kd.R k33 33 w6 w.heap.size (fun k => some k = u5.ownBlock) u5 ((l.take k).map (·.f1))) := ⟨Kd.R_below HR2.out hb⟩; have HBS := Aside0.mk HB.out.size; have z0 : w6.cell? ⟨gb, 0, none⟩ = some (.int .i64 0) := (blk_cell hbox 0).trans rfl; have z1 : w6.cell? ⟨gb, 1, none⟩ = some (.int .i64 0) := (blk_cell hbox 1).trans rfl; have z2 : w6.cell? ⟨gb, 2, none⟩ = some (.int .i64 0) := (blk_cell hbox 2).trans rfl; have z3 : w6.cell? ⟨gb, 3, none⟩ = some (.int .i64 0) := (blk_cell hbox 3).trans rfl; have f0 := blk_frozen hbox 0; have f1 := blk_frozen hbox 1; have f2 := blk_frozen hbox 2; have f3 := blk_frozen hbox 3; have HN1 : Aside0 (u4.ownBlock ≠ some gb) := ⟨fun e => by have := Kd.R_lt HR1.out gb e; omega⟩; have HN2 : Aside0 (u5.ownBlock ≠ some gb) := ⟨fun e => by have := Kd.R_lt HR2.out gb e; omega⟩; have HGE : Aside0 (w.heap.size ≤ gb) := ⟨by rw [hg]; exact HB.out.size⟩; clear hg hbox hb HB HR1 HR2))
   have HX := Aside0.mk (blk_put (blk_put (blk_put (blk_put HX6.out 0 (.int .i64 x.f0.f0) rfl) 1 (.int .i64 x.f0.f1) rfl) 2 (.int .i64 x.f1.f0) rfl) 3 (.int .i64 x.f1.f1) rfl)
   have HG7 := Aside0.mk (World.grownBy.trans (World.grownBy.trans (World.grownBy.trans (grown_set w6 gb 0 (.int .i64 x.f0.f0)) (grown_set _ gb 1 (.int .i64 x.f0.f1))) (grown_set _ gb 2 (.int .i64 x.f1.f0))) (grown_set _ gb 3 (.int .i64 x.f1.f1)))
   generalize (((w6.setCell ⟨gb, 0, none⟩ (.int .i64 x.f0.f0)).setCell ⟨gb, 1, none⟩ (.int .i64 x.f0.f1)).setCell ⟨gb, 2, none⟩ (.int .i64 x.f1.f0)).setCell ⟨gb, 3, none⟩ (.int .i64 x.f1.f1) = w7 at HX HG7 ⊢
   have HB7 : Aside0 (Below w.heap.size w w7) := ⟨HB6.out.grown HG7.out HB6.out.size (fun j hj => by obtain rfl := Option.some.inj hj; exact HGE.out)⟩
   have HR1 : Aside0 (Kd.R k33 33 w7 w.heap.size (fun k => some k = u4.ownBlock) u4 ((l.take k).map (·.f0))) := ⟨Kd.R_grown HR16.out HG7.out (fun j hj e => HN1.out (hj.symm.trans e))⟩
   have HR2 : Aside0 (Kd.R k33 33 w7 w.heap.size (fun k => some k = u5.ownBlock) u5 ((l.take k).map (·.f1))) := ⟨Kd.R_grown HR26.out HG7.out (fun j hj e => HN2.out (hj.symm.trans e))⟩
   have HPR : Aside0 (PR w7 w7.drew w.heap.size (fun k => k = gb) x.f0 x.f1 u4 ((l.take k).map (·.f0)) u5 ((l.take k).map (·.f1)) none none) := ⟨(PR.start HR1.out HR2.out HNE.out (fun k hk => by rw [hk]; exact blk_lt HX.out) (fun k hk => by rw [hk]; exact HN1.out) (fun k hk => by rw [hk]; exact HN2.out)).drew⟩
   have hlen : (l.take k).length = k := by rw [List.length_take]; omega
   have HLE := Aside0.mk hlen
   clear z0 z1 z2 z3 f0 f1 f2 f3 HX6 HB6 HR16 HR26 c0 c1 c2 c3 hlen HR1 HR2 HNE
   refine start_ (n := 12) (S := (fun W => W.heap[gb]? = some (.cells #[.int .i64 x.f0.f0, .int .i64 x.f0.f1, .int .i64 x.f1.f0, .int .i64 x.f1.f1] 45 (0, 0)))) (ds := [9]) #[false, false, false, false, false, false, false, false, false, false, false, false] (by kernel_rfl) (by kernel_rfl) (by rfl) HX.out (fun hS0 => ?_)
   refine pure_ (i := 0) (N := (some 20)) (v := ?_) (a' := ?_) #[true, false, false, false, false, false, false, false, false, false, false, false] rfl rfl (by kernel_rfl) (fun _ _ _ h => h) (Or.inl ⟨by rfl, ?_⟩) ?_ ?_
   rotate_left
   ·intro w'
    go_simp
    with_reducible rfl
   rotate_left
   ·simp only [Act.put, List.setIfInBounds_toArray, List.set_cons_zero, List.set_cons_succ]
    rfl
   refine pure_ (i := 1) (N := (some 21)) (v := ?_) (a' := ?_) #[true, true, false, false, false, false, false, false, false, false, false, false] rfl rfl (by kernel_rfl) (fun _ _ _ h => h) (Or.inl ⟨by rfl, ?_⟩) ?_ ?_
   rotate_left
   ·intro w'
    go_simp
    with_reducible rfl
   rotate_left
   ·simp only [Act.put, List.setIfInBounds_toArray, List.set_cons_zero, List.set_cons_succ]
    rfl
   refine take_ (i := 2) (N := (some 22)) (v := ?_) (a' := ?_) #[true, true, true, false, false, false, false, false, false, false, false, false] rfl rfl (by kernel_rfl) (fun _ _ _ h => h) (Or.inl ⟨by rfl, ?_⟩) hS0 ?_ ?_
   rotate_left
   ·intro w' s0
    have q0 := (blk_cell s0 0).trans rfl
    have q1 := (blk_cell s0 1).trans rfl
    go_simp
    with_reducible rfl
   rotate_left
   ·simp only [Act.put, List.setIfInBounds_toArray, List.set_cons_zero, List.set_cons_succ]
    rfl
   refine pure_ (i := 5) (N := (some 25)) (v := ?_) (a' := ?_) #[true, true, true, false, false, true, false, false, false, false, false, false] rfl rfl (by kernel_rfl) (fun _ _ _ h => h) (Or.inl ⟨by rfl, ?_⟩) ?_ ?_
   rotate_left
   ·intro w'
    go_simp
    with_reducible rfl
   rotate_left
   ·simp only [Act.put, List.setIfInBounds_toArray, List.set_cons_zero, List.set_cons_succ]
    rfl
   refine pure_ (i := 6) (N := (some 26)) (v := ?_) (a' := ?_) #[true, true, true, false, false, true, true, false, false, false, false, false] rfl rfl (by kernel_rfl) (fun _ _ _ h => h) (Or.inl ⟨by rfl, ?_⟩) ?_ ?_
   rotate_left
   ·intro w'
    go_simp
    with_reducible rfl
   rotate_left
   ·simp only [Act.put, List.setIfInBounds_toArray, List.set_cons_zero, List.set_cons_succ]
    rfl
   refine take_ (i := 7) (N := (some 27)) (v := ?_) (a' := ?_) #[true, true, true, false, false, true, true, true, false, false, false, false] rfl rfl (by kernel_rfl) (fun _ _ _ h => h) (Or.inl ⟨by rfl, ?_⟩) hS0 ?_ ?_
   rotate_left
   ·intro w' s0
    have q0 := (blk_cell s0 2).trans rfl
    have q1 := (blk_cell s0 3).trans rfl
    go_simp
    with_reducible rfl
   rotate_left
   ·simp only [Act.put, List.setIfInBounds_toArray, List.set_cons_zero, List.set_cons_succ]
    rfl
   clear hS0
   refine join_ (σ := Value × Nat × Nat) 3 #[true, true, true, true, true, true, true, true, true, false, false, false] (fun s => [(23, .slice (some ⟨s.2.1, 0, none⟩) 1 1), (24, s.1), (28, .slice (some ⟨s.2.2, 0, none⟩) 1 1)]) (fun s w' => Below w.heap.size w w' ∧ PR w7 w' w.heap.size (fun k => k = gb) x.f0 x.f1 s.1 ((l.take k).map (·.f0) ++ [x.f0]) u5 ((l.take k).map (·.f1)) none (some s.2.2)) ?_ (fun hcont => ?_)
   rotate_left
   ·refine two_ (i := 3) (j := 8) (Ni := some 23) (Nj := some 28) #[true, true, true, true, false, true, true, true, false, false, false, false] #[true, true, true, false, false, true, true, true, true, false, false, false] rfl rfl rfl rfl (by kernel_rfl) (by decide) (by decide) (fun K hK => ?_) (fun K hK => ?_)
    ·obtain ⟨wA, ewA⟩ : ∃ W, W = w7.drew.alloc (cells33 x.f0) := ⟨_, rfl⟩
     have hp1 := HPR.out.build
     rw [← ewA] at hp1
     have hbwA : Below w.heap.size w wA := by rw [ewA]; exact below_alloc (below_drew HB7.out) _
     refine value_ (w1 := wA) (v := .slice (some ⟨w7.drew.heap.size, 0, none⟩) 1 1) (by rfl) rfl (by rw [ewA]; go_simp) ?_
     change K (Act.put _ (some 23) _) _
     refine hK.out _ _ ((hp1.keep gb rfl).trans HX.out) (fun hS0 => ?_)
     clear hK
     refine norm_ (a' := ?_) ?_ ?_
     rotate_left
     ·simp only [Act.put, List.setIfInBounds_toArray, List.set_cons_zero, List.set_cons_succ]
      rfl
     clear hS0
     refine two_ (i := 4) (j := 8) (Ni := some 24) (Nj := some 28) #[true, true, true, true, true, true, true, true, false, false, false, false] #[true, true, true, true, false, true, true, true, true, false, false, false] rfl rfl rfl rfl (by kernel_rfl) (by decide) (by decide) (fun K hK => ?_) (fun K hK => ?_)
     ·refine Kd.R_append_rows_step k33 (w0 := w) w.heap.size (by rfl) (.tmp 20) (.tmp 23) 49 33 (.agg #[(.int .i64 0), (.int .i64 0)]) 16 rfl Try.underlying49 info33 rfl (by decide) (by omega) _ ((l.take k).map (·.f0)) [x.f0] (some ⟨w7.drew.heap.size, 0, none⟩) 1 1 (fun _ => True) (fun _ => False) rfl rfl (Kd.R_mono hp1.r1 (fun _ _ => trivial)) (one33 (hp1.b1 _ rfl).1) (fun y cs h => by rw [k33_open h]; exact k33_mkM _ _ _ y) (fun _ h => h.elim) (fun _ _ => trivial) hbwA (hbwA).size (by rw [List.length_map, HLE.out]; have := HL.out; omega) ?_
      intro v1 wB hv hbwB hg hat
      have hp2 := hp1.append hv hg hat
      clear hv hg hat
      change K (Act.put _ (some 24) _) _
      refine hK.out _ _ ((hp2.keep gb rfl).trans HX.out) (fun hS0 => ?_)
      clear hK
      refine norm_ (a' := ?_) ?_ ?_
      rotate_left
      ·simp only [Act.put, List.setIfInBounds_toArray, List.set_cons_zero, List.set_cons_succ]
       rfl
      clear hS0
      refine one_ (i := 8) (N := (some 28)) #[true, true, true, true, true, true, true, true, true, false, false, false] rfl rfl (by kernel_rfl) (by decide) (fun K hK => ?_)
      obtain ⟨wC, ewC⟩ : ∃ W, W = wB.alloc (cells33 x.f1) := ⟨_, rfl⟩
      have hp3 := hp2.symm.build.symm
      rw [← ewC] at hp3
      have hbwC : Below w.heap.size w wC := by rw [ewC]; exact below_alloc hbwB _
      refine value_ (w1 := wC) (v := .slice (some ⟨wB.heap.size, 0, none⟩) 1 1) (by rfl) rfl (by rw [ewC]; go_simp) ?_
      change K (Act.put _ (some 28) _) _
      refine hK.out _ _ ((hp3.keep gb rfl).trans HX.out) (fun hS0 => ?_)
      clear hK
      exact hcont (v1, _, _) wC ⟨hbwC, hp3⟩
     ·obtain ⟨wB, ewB⟩ : ∃ W, W = wA.alloc (cells33 x.f1) := ⟨_, rfl⟩
      have hp2 := hp1.symm.build.symm
      rw [← ewB] at hp2
      have hbwB : Below w.heap.size w wB := by rw [ewB]; exact below_alloc hbwA _
      refine value_ (w1 := wB) (v := .slice (some ⟨wA.heap.size, 0, none⟩) 1 1) (by rfl) rfl (by rw [ewB]; go_simp) ?_
      change K (Act.put _ (some 28) _) _
      refine hK.out _ _ ((hp2.keep gb rfl).trans HX.out) (fun hS0 => ?_)
      clear hK
      refine norm_ (a' := ?_) ?_ ?_
      rotate_left
      ·simp only [Act.put, List.setIfInBounds_toArray, List.set_cons_zero, List.set_cons_succ]
       rfl
      clear hS0
      refine one_ (i := 4) (N := (some 24)) #[true, true, true, true, true, true, true, true, true, false, false, false] rfl rfl (by kernel_rfl) (by decide) (fun K hK => ?_)
      refine Kd.R_append_rows_step k33 (w0 := w) w.heap.size (by rfl) (.tmp 20) (.tmp 23) 49 33 (.agg #[(.int .i64 0), (.int .i64 0)]) 16 rfl Try.underlying49 info33 rfl (by decide) (by omega) _ ((l.take k).map (·.f0)) [x.f0] (some ⟨w7.drew.heap.size, 0, none⟩) 1 1 (fun _ => True) (fun _ => False) rfl rfl (Kd.R_mono hp2.r1 (fun _ _ => trivial)) (one33 (hp2.b1 _ rfl).1) (fun y cs h => by rw [k33_open h]; exact k33_mkM _ _ _ y) (fun _ h => h.elim) (fun _ _ => trivial) hbwB (hbwB).size (by rw [List.length_map, HLE.out]; have := HL.out; omega) ?_
      intro v1 wC hv hbwC hg hat
      have hp3 := hp2.append hv hg hat
      clear hv hg hat
      change K (Act.put _ (some 24) _) _
      refine hK.out _ _ ((hp3.keep gb rfl).trans HX.out) (fun hS0 => ?_)
      clear hK
      exact hcont (v1, _, _) wC ⟨hbwC, hp3⟩
    ·obtain ⟨wA, ewA⟩ : ∃ W, W = w7.drew.alloc (cells33 x.f1) := ⟨_, rfl⟩
     have hp1 := HPR.out.symm.build.symm
     rw [← ewA] at hp1
     have hbwA : Below w.heap.size w wA := by rw [ewA]; exact below_alloc (below_drew HB7.out) _
     refine value_ (w1 := wA) (v := .slice (some ⟨w7.drew.heap.size, 0, none⟩) 1 1) (by rfl) rfl (by rw [ewA]; go_simp) ?_
     change K (Act.put _ (some 28) _) _
     refine hK.out _ _ ((hp1.keep gb rfl).trans HX.out) (fun hS0 => ?_)
     clear hK
     refine norm_ (a' := ?_) ?_ ?_
     rotate_left
     ·simp only [Act.put, List.setIfInBounds_toArray, List.set_cons_zero, List.set_cons_succ]
      rfl
     clear hS0
     refine one_ (i := 3) (N := (some 23)) #[true, true, true, true, false, true, true, true, true, false, false, false] rfl rfl (by kernel_rfl) (by decide) (fun K hK => ?_)
     obtain ⟨wB, ewB⟩ : ∃ W, W = wA.alloc (cells33 x.f0) := ⟨_, rfl⟩
     have hp2 := hp1.build
     rw [← ewB] at hp2
     have hbwB : Below w.heap.size w wB := by rw [ewB]; exact below_alloc hbwA _
     refine value_ (w1 := wB) (v := .slice (some ⟨wA.heap.size, 0, none⟩) 1 1) (by rfl) rfl (by rw [ewB]; go_simp) ?_
     change K (Act.put _ (some 23) _) _
     refine hK.out _ _ ((hp2.keep gb rfl).trans HX.out) (fun hS0 => ?_)
     clear hK
     refine norm_ (a' := ?_) ?_ ?_
     rotate_left
     ·simp only [Act.put, List.setIfInBounds_toArray, List.set_cons_zero, List.set_cons_succ]
      rfl
     clear hS0
     refine one_ (i := 4) (N := (some 24)) #[true, true, true, true, true, true, true, true, true, false, false, false] rfl rfl (by kernel_rfl) (by decide) (fun K hK => ?_)
     refine Kd.R_append_rows_step k33 (w0 := w) w.heap.size (by rfl) (.tmp 20) (.tmp 23) 49 33 (.agg #[(.int .i64 0), (.int .i64 0)]) 16 rfl Try.underlying49 info33 rfl (by decide) (by omega) _ ((l.take k).map (·.f0)) [x.f0] (some ⟨wA.heap.size, 0, none⟩) 1 1 (fun _ => True) (fun _ => False) rfl rfl (Kd.R_mono hp2.r1 (fun _ _ => trivial)) (one33 (hp2.b1 _ rfl).1) (fun y cs h => by rw [k33_open h]; exact k33_mkM _ _ _ y) (fun _ h => h.elim) (fun _ _ => trivial) hbwB (hbwB).size (by rw [List.length_map, HLE.out]; have := HL.out; omega) ?_
     intro v1 wC hv hbwC hg hat
     have hp3 := hp2.append hv hg hat
     clear hv hg hat
     change K (Act.put _ (some 24) _) _
     refine hK.out _ _ ((hp3.keep gb rfl).trans HX.out) (fun hS0 => ?_)
     clear hK
     exact hcont (v1, _, _) wC ⟨hbwC, hp3⟩
   rintro ⟨v1, b1, b2⟩ w8 ⟨hb8, hp8⟩
   dsimp only [putAll]
   dsimp only at hp8
   have HB8 := Aside0.mk hb8
   have HP8 := Aside0.mk hp8.symm
   clear hb8 hp8
   refine norm_ (a' := ?_) ?_ ?_
   rotate_left
   ·simp only [Act.put, List.setIfInBounds_toArray, List.set_cons_zero, List.set_cons_succ]
    rfl
   refine last_ (i := 9) (N := (some 29)) #[true, true, true, true, true, true, true, true, true, true, false, false] rfl rfl (by kernel_rfl) (by decide) (fun K hK => ?_)
   refine Kd.R_append_rows_step k33 (w0 := w) w.heap.size (by rfl) (.tmp 25) (.tmp 28) 49 33 (.agg #[(.int .i64 0), (.int .i64 0)]) 16 rfl Try.underlying49 info33 rfl (by decide) (by omega) _ ((l.take k).map (·.f1)) [x.f1] (some ⟨b2, 0, none⟩) 1 1 (fun _ => True) (fun _ => False) rfl rfl (Kd.R_mono HP8.out.r1 (fun _ _ => trivial)) (one33 (HP8.out.b1 _ rfl).1) (fun y cs h => by rw [k33_open h]; exact k33_mkM _ _ _ y) (fun _ h => h.elim) (fun _ _ => trivial) HB8.out (HB8.out).size (by rw [List.length_map, HLE.out]; have := HL.out; omega) ?_
   intro v2 w9 hv hbw9 hg hat
   have hp9 := HP8.out.append hv hg hat
   clear hv hg hat
   have HP9 := Aside0.mk hp9.symm
   have HB9 := Aside0.mk hbw9
   clear hp9 hbw9
   change K (Act.put _ (some 29) _) _
   refine hK.out _ _ ?_
   clear hK
   refine norm_ (a' := ?_) ?_ ?_
   rotate_left
   ·simp only [Act.put, List.setIfInBounds_toArray, List.set_cons_zero, List.set_cons_succ]
    rfl
   refine pure_ (i := 10) (N := (some 4)) (v := ?_) (a' := ?_) #[true, true, true, true, true, true, true, true, true, true, true, false] rfl rfl (by kernel_rfl) (fun _ _ _ h => h) (Or.inl ⟨by rfl, ?_⟩) ?_ ?_
   rotate_left
   ·intro w'
    go_simp
    with_reducible rfl
   rotate_left
   ·simp only [Act.put, List.setIfInBounds_toArray, List.set_cons_zero, List.set_cons_succ]
    rfl
   refine pure_ (i := 11) (N := (some 5)) (v := ?_) (a' := ?_) #[true, true, true, true, true, true, true, true, true, true, true, true] rfl rfl (by kernel_rfl) (fun _ _ _ h => h) (Or.inl ⟨by rfl, ?_⟩) ?_ ?_
   rotate_left
   ·intro w'
    go_simp
    with_reducible rfl
   rotate_left
   ·simp only [Act.put, List.setIfInBounds_toArray, List.set_cons_zero, List.set_cons_succ]
    rfl
   refine done_ (by kernel_rfl) ?_
   go_wp2_with fail
   have e1 : (l.take (k + 1)).map (·.f0) = (l.take k).map (·.f0) ++ [x.f0] := by rw [List.take_succ_eq_append_getElem hlt, List.map_append, ← HXE.out]; rfl
   have e2 : (l.take (k + 1)).map (·.f1) = (l.take k).map (·.f1) ++ [x.f1] := by rw [List.take_succ_eq_append_getElem hlt, List.map_append, ← HXE.out]; rfl
   exact ⟨⟨k + 1, by go_num, by omega, ⟨by rw [e1]; exact HP9.out.r1⟩, ⟨by rw [e2]; exact HP9.out.r2⟩, ⟨HP9.out.ne⟩, HB9⟩, by simp [intOf]; omega⟩
  ·have ek : k = l.length := by omega
   subst ek
   go_wp2_with fail
   refine bodyPost_ret (results_tmp2 rfl _ _ _) rfl ?_
   rw [List.take_length] at HR1 HR2
   exact ⟨_, _, rfl, HR1.out, HR2.out, HNE.out, HB.out⟩
end Go.Proofs.Ytohhobcipfmkbaa.CFin
end
