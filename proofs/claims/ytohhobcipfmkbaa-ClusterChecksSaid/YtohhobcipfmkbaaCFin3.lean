/- Merged of own texts: CFin3, CFin4, CFin5. -/
import Derived.Test.YtohhobcipfmkbaaCFinA
import Derived.Test.YtohhobcipfmkbaaUForest
import Derived.StillTailTactics
/-! sets.find, sets.join: walked. -/
namespace Go.Proofs.Ytohhobcipfmkbaa.CFin
open Go.RowKit Go.Proofs.YtohhobcipfmkbaaW.PrintWords Go.Proofs.YtohhobcipfmkbaaW.PrintMore Go.Proofs.YtohhobcipfmkbaaW.PrintLast Go.Proofs.Ytohhobcipfmkbaa.U Go.Proofs.Ytohhobcipfmkbaa.PClusterFinest Go.Proofs.Ytohhobcipfmkbaa.UFinest Go.Proofs.Ytohhobcipfmkbaa.UFinEv
set_option linter.unusedVariables false
set_option linter.unusedSimpArgs false
attribute [local go_sem] max2_int min2_int max_two min_two
set_option maxRecDepth 100000 in
set_option maxHeartbeats 1000000 in
theorem find_c {w : World} {base g N cap : Nat} {p : List Int} {r : Lab} (h : LI w base g N cap p) (hp : PF N r p) (hN : N ≤ 1000000) (i : Nat) (hi : i < N) :
    Calls Try.prog 86 #[.slice (some ⟨g, 0, none⟩) N cap, .int .i64 i] w fun e w' => ∃ p', e = .returned (.int .i64 (r i : Nat)) ∧ LI w' base g N cap p' ∧ PF N r p' ∧ w.grownBy w' (some g) := by
  have HV := Aside0.mk h
  have HP := Aside0.mk hp
  clear h hp
  go_enter Try.func86, Try.ntmps86
  go_wp2_with fail
  go_loopw [1] (fun v wr => ∃ (j : Nat) (p : List Int), v = .int .i64 j ∧ j < N ∧ Aside0 (r j = r i) ∧ Aside0 (LI wr base g N cap p) ∧ Aside0 (PF N r p) ∧ Aside0 (w.grownBy wr (some g))) (fun v _ => (intOf v).toNat)
  case atStart => exact ⟨i, p, rfl, hi, ⟨rfl⟩, HV, HP, ⟨World.grownBy.refl _ _⟩⟩
  case round =>
    clear HV HP
    obtain ⟨j, p, rfl, hj, HRR, HV, HP, HG⟩ := hrel
    have hjN : (j : Int) < (N : Int) := by omega
    by_cases hr : p.getD j 0 = (j : Int)
    · obtain ⟨hc, hf⟩ := HV.out.cell j hj
      rw [hr] at hc
      have HRT := Aside0.mk (HP.out.root hj hr)
      clear hr
      go_wp2_with fail
      go_ret
      have hri : r i = j := HRR.out.symm.trans HRT.out
      exact ⟨p, by rw [hri]; rfl, HV.out, HP.out, HG.out⟩
    · obtain ⟨q, hq, hlt, hqr⟩ := HP.out.up hj hr
      obtain ⟨q2, hq2, hle2, hqr2, _⟩ := HP.out q (by omega)
      obtain ⟨hc, hf⟩ := HV.out.cell j hj
      obtain ⟨hc2, hf2⟩ := HV.out.cell q (by omega)
      rw [hq] at hc
      rw [hq2] at hc2
      have HH := Aside0.mk (HP.out.half HV.out.len.symm hj hq hq2)
      have HP2 := Aside0.mk (HV.out.put j (q2 : Int))
      have HR2 := Aside0.mk (hqr2.trans hqr)
      have hne : ¬ (q : Int) = (j : Int) := by omega
      have hqN : (q : Int) < (N : Int) := by omega
      clear hr hq hq2 hqr hqr2 HV HP
      go_wp2_with fail
      exact ⟨⟨q2, _, rfl, by omega, ⟨HR2.out.trans HRR.out⟩, HP2, HH, ⟨World.grownBy.trans HG.out (grown_set _ _ _ _)⟩⟩, by simp [intOf]; omega⟩
theorem LI.grown {w w' : World} {base g n cap g' : Nat} {xs : List Int} (h : LI w base g n cap xs) (hg : w.grownBy w' (some g')) (hne : g ≠ g') : LI w' base g n cap xs :=
  Kd.R_grown h hg (fun k hk e => hne (by rw [← hk]; exact Option.some.inj e))
set_option maxRecDepth 100000 in
set_option maxHeartbeats 1000000 in
theorem join_c {w : World} {base g N cap : Nat} {p : List Int} {r : Lab} (h : LI w base g N cap p) (hp : PF N r p) (ho : LabOk N r) (hN : N ≤ 1000000) (a b : Nat) (ha : a < N) (hb : b < N) :
    Calls Try.prog 84 #[.slice (some ⟨g, 0, none⟩) N cap, .int .i64 a, .int .i64 b] w fun e w' => ∃ p', e = .returned (.bool (two r a b)) ∧ LI w' base g N cap p' ∧ PF N (merge r a b) p' ∧ w.grownBy w' (some g) := by
  have HV := Aside0.mk h
  have HP := Aside0.mk hp
  clear h hp
  have h1 := ho.le a ha
  have h2 := ho.le b hb
  have HO := Aside0.mk ho
  clear ho
  go_enter Try.func84, Try.ntmps84
  by_cases hab : r a = r b
  · have ht := Aside0.mk (two_false hab)
    have hm := Aside0.mk (merge_same r a b hab)
    have HAB := Aside0.mk hab
    clear hab
    go_wp2_with (first | (go_at_call 86; refine (find_c HV.out HP.out hN a ha).mono ?_; rintro e w1 ⟨p1, rfl, a1, a2, a3⟩; have HV1 := Aside0.mk a1; have HP1 := Aside0.mk a2; have HG1 := Aside0.mk a3; clear a1 a2 a3 HV HP) | (go_at_call 86; refine (find_c HV1.out HP1.out hN b hb).mono ?_; rintro e w2 ⟨p2, rfl, a1, a2, a3⟩; rw [← HAB.out]; have HV2 := Aside0.mk a1; have HP2 := Aside0.mk a2; have HG2 : Aside0 (w.grownBy w2 (some g)) := ⟨World.grownBy.trans HG1.out a3⟩; clear a1 a2 a3 HV1 HP1))
    go_ret
    exact ⟨p2, by rw [ht.out]; rfl, HV2.out, by rw [hm.out]; exact HP2.out, HG2.out⟩
  · have ht := Aside0.mk (two_true hab)
    have HAB := Aside0.mk hab
    obtain ⟨x, hx⟩ : ∃ x, x = r a := ⟨_, rfl⟩
    obtain ⟨y, hy⟩ : ∃ y, y = r b := ⟨_, rfl⟩
    have hxy : ¬ (x : Int) = (y : Int) := by omega
    have HX := Aside0.mk hx
    have HY := Aside0.mk hy
    have hxN : x < N := by omega
    have hyN : y < N := by omega
    clear hab hx hy
    go_upto_region 4 with (first | (go_at_call 86; refine (find_c HV.out HP.out hN a ha).mono ?_; rintro e w1 ⟨p1, rfl, a1, a2, a3⟩; rw [← HX.out]; have HV1 := Aside0.mk a1; have HP1 := Aside0.mk a2; have HG1 := Aside0.mk a3; clear a1 a2 a3 HV HP) | (go_at_call 86; refine (find_c HV1.out HP1.out hN b hb).mono ?_; rintro e w2 ⟨p2, rfl, a1, a2, a3⟩; rw [← HY.out]; have HV2 := Aside0.mk a1; have HP2 := Aside0.mk a2; have HG2 : Aside0 (w.grownBy w2 (some g)) := ⟨World.grownBy.trans HG1.out a3⟩; clear a1 a2 a3 HV1 HP1))
    by_cases hlt : (x : Int) < (y : Int)
    · have hc0 := HV2.out.cell y hyN
      obtain ⟨hc, hf⟩ := hc0
      have HP3 := Aside0.mk (HV2.out.put y (x : Int))
      have HQ3 : Aside0 (PF N (merge r a b) (p2.set y (x : Int))) := ⟨by
        have h := HP2.out.join HO.out HV2.out.len.symm a b ha hb HAB.out
        rw [← HX.out, ← HY.out, show max x y = y by omega, show min x y = x by omega] at h
        exact h⟩
      have hI : (y : Int) < (N : Int) := by omega
      have hJ : ¬ (y : Int) < (x : Int) := by omega
      clear HV2 HP2
      go_wp2_with fail
      go_ret
      exact ⟨by rw [ht.out]; rfl, _, HP3.out, HQ3.out, World.grownBy.trans HG2.out (grown_set _ _ _ _)⟩
    · have hlt2 : (y : Int) < (x : Int) := by omega
      have hc0 := HV2.out.cell x hxN
      obtain ⟨hc, hf⟩ := hc0
      have HP3 := Aside0.mk (HV2.out.put x (y : Int))
      have HQ3 : Aside0 (PF N (merge r a b) (p2.set x (y : Int))) := ⟨by
        have h := HP2.out.join HO.out HV2.out.len.symm a b ha hb HAB.out
        rw [← HX.out, ← HY.out, show max x y = x by omega, show min x y = y by omega] at h
        exact h⟩
      have hI : (x : Int) < (N : Int) := by omega
      have hJ : ¬ (x : Int) < (y : Int) := by omega
      clear HV2 HP2
      go_wp2_with fail
      go_ret
      exact ⟨by rw [ht.out]; rfl, _, HP3.out, HQ3.out, World.grownBy.trans HG2.out (grown_set _ _ _ _)⟩
end Go.Proofs.Ytohhobcipfmkbaa.CFin
/-! weave's all, link: walked. -/
namespace Go.Proofs.Ytohhobcipfmkbaa.CFin
open Go.RowKit Go.Proofs.YtohhobcipfmkbaaW.PrintWords Go.Proofs.YtohhobcipfmkbaaW.PrintMore Go.Proofs.YtohhobcipfmkbaaW.PrintLast Go.Proofs.Ytohhobcipfmkbaa.U Go.Proofs.Ytohhobcipfmkbaa.PClusterFinest Go.Proofs.Ytohhobcipfmkbaa.UFinest Go.Proofs.Ytohhobcipfmkbaa.UFinEv
set_option linter.unusedVariables false
set_option linter.unusedSimpArgs false
theorem labOk_allF {N : Nat} {r : Lab} (h : LabOk N r) (base k : Nat) (hb : base + k < N) : LabOk N (allF r base k) := by
  induction k with
  | zero => exact h
  | succ k ih => exact (ih (by omega)).merge _ _ (by omega) (by omega)
/-- the weave: its sets, and how many places each side has -/
def WV (w : World) (B g n m N cap : Nat) : Prop := w.heap[B]? = some (.cells #[.slice (some ⟨g, 0, none⟩) N cap, .int .i64 n, .int .i64 m] 87 (0, 0))
theorem WV.below {w w' : World} {B g n m N cap : Nat} (h : WV w B g n m N cap) (hb : Below w.heap.size w w') : WV w' B g n m N cap := (hb.block _ (blk_lt h)).trans h
theorem WV.grown {w w' : World} {B g g' n m N cap : Nat} (h : WV w B g n m N cap) (hg : w.grownBy w' (some g')) (hne : B ≠ g') : WV w' B g n m N cap := (hg.block _ (blk_lt h) (fun e => hne (Option.some.inj e))).trans h
theorem WV.c0 {w : World} {B g n m N cap : Nat} (h : WV w B g n m N cap) : w.cell? ⟨B, 0, none⟩ = some (.slice (some ⟨g, 0, none⟩) N cap) := (blk_cell h 0).trans rfl
theorem WV.c1 {w : World} {B g n m N cap : Nat} (h : WV w B g n m N cap) : w.cell? ⟨B, 1, none⟩ = some (.int .i64 n) := (blk_cell h 1).trans rfl
theorem WV.c2 {w : World} {B g n m N cap : Nat} (h : WV w B g n m N cap) : w.cell? ⟨B, 2, none⟩ = some (.int .i64 m) := (blk_cell h 2).trans rfl
theorem below_grownBy {w w' : World} (h : Below w.heap.size w w') (row : Option Nat) : w.grownBy w' row := ⟨h.os, h.tape, h.output, h.size, fun k hk _ => h.block k hk⟩
set_option maxRecDepth 100000 in
set_option maxHeartbeats 1000000 in
theorem all_c {w : World} {base B g n m N cap : Nat} {p : List Int} {r : Lab} (hW : WV w B g n m N cap) (h : LI w base g N cap p) (hne : B ≠ g) (hp : PF N r p) (ho : LabOk N r) (hN : N ≤ 1000000) (lo hi by_ : Nat) (hlh : lo < hi) (hh : by_ + hi ≤ N) :
    Calls Try.prog 83 #[.pointer (some ⟨B, 0, none⟩), .agg #[.int .i64 lo, .int .i64 hi], .int .i64 by_] w fun e w' => e = .returned (.tuple #[]) ∧ ∃ p', LI w' base g N cap p' ∧ PF N (allF r (by_ + lo) (hi - lo - 1)) p' ∧ w.grownBy w' (some g) := by
  have HW := Aside0.mk hW
  have HV := Aside0.mk h
  have HP := Aside0.mk hp
  have HO := Aside0.mk ho
  have hgw := h.ltw
  have e1 : IntKind.i64.wrap ((lo : Int) + 1) = ((lo + 1 : Nat) : Int) := by rw [IntWalk.i64_in _ (by omega)]; omega
  clear hW h hp ho
  go_enter Try.func83, Try.ntmps83
  go_wp2_with (first | ((with_reducible refine gate_dst (N := 4) rfl ?_); refine box_event ?hg (N := 4) ?hd (cs := #[.int .i64 lo, .int .i64 hi]) (t := 33) ?hr ?_; (case hd => rfl); (case hg => rfl); (case hr => first | (go_simp; done) | (go_simp; rfl)); intro gb hg w5 hbox hb; have HW5 := Aside0.mk (HW.out.below hb); have HV5 := Aside0.mk (HV.out.below hb); have HX := Aside0.mk hbox; have HGB := Aside0.mk hg; have HG5 := Aside0.mk (below_grownBy hb (some g)); have b0 : w5.cell? ⟨gb, 0, none⟩ = some (.int .i64 lo) := (blk_cell hbox 0).trans rfl; have b1 : w5.cell? ⟨gb, 1, none⟩ = some (.int .i64 hi) := (blk_cell hbox 1).trans rfl; clear hg hbox hb HW HV))
  clear b0 b1
  have HGN : Aside0 (gb ≠ g) := ⟨by have := HGB.out; omega⟩
  go_loopw [6] (fun v wr => ∃ (j : Nat) (p : List Int), v = .int .i64 j ∧ lo + 1 ≤ j ∧ j ≤ hi ∧ Aside0 (WV wr B g n m N cap) ∧ Aside0 (LI wr base g N cap p) ∧ Aside0 (PF N (allF r (by_ + lo) (j - lo - 1)) p) ∧ Aside0 (wr.heap[gb]? = some (.cells #[.int .i64 lo, .int .i64 hi] 33 (0, 0))) ∧ Aside0 (w.grownBy wr (some g))) (fun v _ => hi - (intOf v).toNat)
  case atStart => exact ⟨lo + 1, p, rfl, Nat.le_refl _, hlh, HW5, HV5, ⟨by rw [show lo + 1 - lo - 1 = 0 by omega]; exact HP.out⟩, HX, HG5⟩
  case round =>
    clear HW5 HV5 HP HX HG5
    obtain ⟨j, p, rfl, hj1, hj2, HW, HV, HP, HX, HG⟩ := hrel
    have b0 := (blk_cell HX.out 0).trans rfl
    have b1 := (blk_cell HX.out 1).trans rfl
    have d0 := HW.out.c0
    by_cases hlt : j < hi
    · have hjI : (j : Int) < (hi : Int) := by omega
      obtain ⟨a, ha⟩ : ∃ a, a = by_ + lo := ⟨_, rfl⟩
      obtain ⟨b, hb⟩ : ∃ b, b = by_ + j := ⟨_, rfl⟩
      have e2 : IntKind.i64.wrap ((by_ : Int) + (lo : Int)) = (a : Int) := by rw [IntWalk.i64_in _ (by omega)]; omega
      have e3 : IntKind.i64.wrap ((by_ : Int) + (j : Int)) = (b : Int) := by rw [IntWalk.i64_in _ (by omega)]; omega
      have haN : a < N := by omega
      have hbN : b < N := by omega
      have HA := Aside0.mk ha
      have HB := Aside0.mk hb
      clear ha hb
      go_wp2_with fail
      go_still_tail 11, (by kernel_rfl)
      repeat still_step
      have HWd : Aside0 (WV wr.drew B g n m N cap) := ⟨HW.out⟩
      have HVd : Aside0 (LI wr.drew base g N cap p) := ⟨Kd.R_drew HV.out⟩
      go_wp2_with (go_at_call 84; refine (join_c HVd.out HP.out (labOk_allF HO.out _ _ (by omega)) hN a b haN hbN).mono ?_; rintro e w6 ⟨p1, rfl, a1, a2, a3⟩; have HV6 := Aside0.mk a1; have HP6 : Aside0 (PF N (allF r (by_ + lo) (j + 1 - lo - 1)) p1) := ⟨by rw [HA.out, HB.out] at a2; rw [show j + 1 - lo - 1 = (j - lo - 1) + 1 by omega]; have e : by_ + lo + (j - lo - 1) + 1 = by_ + j := (by omega); show PF N (merge (allF r (by_ + lo) (j - lo - 1)) (by_ + lo) (by_ + lo + (j - lo - 1) + 1)) p1; rw [e]; exact a2⟩; have HG6 := Aside0.mk a3; clear a1 a2 a3)
      have HGd : Aside0 (wr.grownBy w6 (some g)) := ⟨World.grownBy.trans (below_grownBy (below_drew (Below.refl _ _)) _) HG6.out⟩
      exact ⟨⟨j + 1, p1, by go_num, by omega, by omega, ⟨HW.out.grown HGd.out hne⟩, HV6, HP6, ⟨(HGd.out.block _ (blk_lt HX.out) (fun e => HGN.out (Option.some.inj e))).trans HX.out⟩, ⟨World.grownBy.trans HG.out HGd.out⟩⟩, by simp [intOf]; omega⟩
    · have ej : j = hi := by omega
      subst ej
      go_wp2_with fail
      go_end0
      exact ⟨rfl, p, HV.out, HP.out, HG.out⟩
end Go.Proofs.Ytohhobcipfmkbaa.CFin
/-! weave's link: walked. -/
namespace Go.Proofs.Ytohhobcipfmkbaa.CFin
open Go.RowKit Go.Proofs.YtohhobcipfmkbaaW.PrintWords Go.Proofs.YtohhobcipfmkbaaW.PrintMore Go.Proofs.YtohhobcipfmkbaaW.PrintLast Go.Proofs.Ytohhobcipfmkbaa.U Go.Proofs.Ytohhobcipfmkbaa.PClusterFinest Go.Proofs.Ytohhobcipfmkbaa.UFinest Go.Proofs.Ytohhobcipfmkbaa.UFinEv
set_option linter.unusedVariables false
set_option linter.unusedSimpArgs false
set_option maxRecDepth 100000 in
set_option maxHeartbeats 1000000 in
theorem link_c {w : World} {base B g n m N cap : Nat} {p : List Int} {r : Lab} (hW : WV w B g n m N cap) (h : LI w base g N cap p) (hne : B ≠ g) (hp : PF N r p) (ho : LabOk N r) (hN : N ≤ 1000000) (x : Lk) (hab : x.a < x.b) (hbn : x.b ≤ n) (hcd : x.c < x.d) (hdm : x.d ≤ m) (hnm : n + m = N) :
    Calls Try.prog 60 #[.pointer (some ⟨B, 0, none⟩), .agg #[.int .i64 x.a, .int .i64 x.b, .int .i64 x.c, .int .i64 x.d]] w fun e w' => e = .returned (.tuple #[]) ∧ ∃ p', LI w' base g N cap p' ∧ PF N (linkF n r x) p' ∧ w.grownBy w' (some g) := by
  have HW := Aside0.mk hW
  have HV := Aside0.mk h
  have HP := Aside0.mk hp
  have HO := Aside0.mk ho
  have hgw := h.ltw
  obtain ⟨a, b, c, d⟩ := x
  dsimp only at hab hbn hcd hdm
  have HO1 := Aside0.mk (labOk_allF ho a (b - a - 1) (by omega))
  have HO2 := Aside0.mk (labOk_allF HO1.out (n + c) (d - c - 1) (by omega))
  clear hW h hp ho
  dsimp only
  go_enter Try.func60, Try.ntmps60
  go_wp2_with (first | ((with_reducible refine gate_dst (N := 3) rfl ?_); refine box_event ?hg (N := 3) ?hd (cs := #[.int .i64 a, .int .i64 b, .int .i64 c, .int .i64 d]) (t := 45) ?hr ?_; (case hd => rfl); (case hg => rfl); (case hr => first | (go_simp; done) | (go_simp; rfl)); intro gb hg w5 hbox hb; have HW5 := Aside0.mk (HW.out.below hb); have HV5 := Aside0.mk (HV.out.below hb); have HX := Aside0.mk hbox; have HGB := Aside0.mk hg; have HG5 := Aside0.mk (below_grownBy hb (some g)); have b0 : w5.cell? ⟨gb, 0, none⟩ = some (.int .i64 a) := (blk_cell hbox 0).trans rfl; have b1 : w5.cell? ⟨gb, 1, none⟩ = some (.int .i64 b) := (blk_cell hbox 1).trans rfl; clear hg hbox hb HW HV) | (go_at_call 83; refine (all_c (lo := a) (hi := b) (by_ := 0) HW5.out HV5.out hne HP.out HO.out hN hab (by omega)).mono ?_; rintro e w6 ⟨rfl, p1, a1, a2, a3⟩; have HV6 := Aside0.mk a1; have HP6 : Aside0 (PF N (allF r a (b - a - 1)) p1) := ⟨by rw [Nat.zero_add] at a2; exact a2⟩; have HW6 := Aside0.mk (HW5.out.grown a3 hne); have HX6 : Aside0 (w6.heap[gb]? = _) := ⟨(a3.block _ (blk_lt HX.out) (fun e => by have := HGB.out; have := Option.some.inj e; omega)).trans HX.out⟩; have HG6 : Aside0 (w.grownBy w6 (some g)) := ⟨World.grownBy.trans HG5.out a3⟩; clear a1 a2 a3 HW5 HV5 HX HG5 HP b0 b1))
  have q2 : w6.cell? ⟨gb, 2, none⟩ = some (.int .i64 c) := (blk_cell HX6.out 2).trans rfl
  have q3 : w6.cell? ⟨gb, 3, none⟩ = some (.int .i64 d) := (blk_cell HX6.out 3).trans rfl
  have d1 := HW6.out.c1
  go_still_tail 7, (by kernel_rfl)
  repeat still_step
  have HWd : Aside0 (WV w6.drew B g n m N cap) := ⟨HW6.out⟩
  have HVd : Aside0 (LI w6.drew base g N cap p1) := ⟨Kd.R_drew HV6.out⟩
  clear q2 q3 d1
  go_wp2_with (go_at_call 83; refine (all_c (lo := c) (hi := d) (by_ := n) HWd.out HVd.out hne HP6.out HO1.out hN hcd (by omega)).mono ?_; rintro e w7 ⟨rfl, p2, a1, a2, a3⟩; have HV7 := Aside0.mk a1; have HP7 := Aside0.mk a2; have HW7 := Aside0.mk (HWd.out.grown a3 hne); have hgd : w6.grownBy w7 (some g) := World.grownBy.trans (below_grownBy (below_drew (Below.refl _ _)) _) a3; have HX7 : Aside0 (w7.heap[gb]? = _) := ⟨(hgd.block _ (blk_lt HX6.out) (fun e => by have := HGB.out; have := Option.some.inj e; omega)).trans HX6.out⟩; have HG7 : Aside0 (w.grownBy w7 (some g)) := ⟨World.grownBy.trans HG6.out hgd⟩; clear a1 a2 a3 hgd HWd HVd HW6 HV6 HX6 HG6 HP6)
  have q0 : w7.cell? ⟨gb, 0, none⟩ = some (.int .i64 a) := (blk_cell HX7.out 0).trans rfl
  have q2 : w7.cell? ⟨gb, 2, none⟩ = some (.int .i64 c) := (blk_cell HX7.out 2).trans rfl
  have d0 := HW7.out.c0
  have d1 := HW7.out.c1
  obtain ⟨k, hk⟩ : ∃ k, k = n + c := ⟨_, rfl⟩
  have e2 : IntKind.i64.wrap ((n : Int) + (c : Int)) = (k : Int) := by rw [IntWalk.i64_in _ (by omega)]; omega
  have hkN : k < N := by omega
  have haN : a < N := by omega
  have HK := Aside0.mk hk
  clear hk
  go_still_tail 15, (by kernel_rfl)
  repeat still_step
  have HVd : Aside0 (LI w7.drew base g N cap p2) := ⟨Kd.R_drew HV7.out⟩
  clear q0 q2 d0 d1
  go_wp2_with (go_at_call 84; refine (join_c HVd.out HP7.out HO2.out hN a k haN hkN).mono ?_; rintro e w8 ⟨p3, rfl, a1, a2, a3⟩; have HV8 := Aside0.mk a1; have HP8 : Aside0 (PF N (linkF n r ⟨a, b, c, d⟩) p3) := ⟨by rw [HK.out] at a2; exact a2⟩; have HG8 : Aside0 (w.grownBy w8 (some g)) := ⟨World.grownBy.trans HG7.out (World.grownBy.trans (below_grownBy (below_drew (Below.refl _ _)) _) a3)⟩; clear a1 a2 a3)
  go_end0
  exact ⟨rfl, p3, HV8.out, HP8.out, HG8.out⟩
end Go.Proofs.Ytohhobcipfmkbaa.CFin
