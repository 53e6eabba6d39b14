/- Texts of this claim, cut to what it needs. -/
import Derived.Test.YtohhobcipfmkbaaKCCells1
import Derived.Test.YtohhobcipfmkbaaKCFinQ
import Derived.StillTailTactics
import Derived.Maps.Own
import Derived.Maps.Views
set_option linter.unusedSimpArgs false
set_option linter.unusedVariables false
section
namespace Go.Proofs.Ytohhobcipfmkbaa.Cel
open Go.RowKit Go.Proofs.YtohhobcipfmkbaaW.PrintWords Go.Proofs.YtohhobcipfmkbaaW.PrintMore Go.Proofs.YtohhobcipfmkbaaW.PrintLast Go.Proofs.Ytohhobcipfmkbaa.U Go.Proofs.Ytohhobcipfmkbaa.PClusterFinest
theorem info31 : (Try.prog.info? 31).map (fun i => (i.zero, i.size, i.bytes)) = some (some (.slice none 0 0), 1, 24) := by kernel_rfl
abbrev ptr (b : Nat) : Value := .pointer (some ⟨b, 0, none⟩)
set_option maxRecDepth 100000 in
set_option maxHeartbeats 4000000 in
theorem has_c (A : Option Addr) (n c : Nat) (at_ : Int) {w : World} : Calls Try.prog 48 #[.slice A n c, .int .i64 at_] w fun e w' => e = .returned (.bool (decide (0 ≤ at_ ∧ at_ < n))) ∧ Below w.heap.size w w' := by
 by_cases h0 : 0 ≤ at_
 ·by_cases h1 : at_ < (n : Int)
  ·have e : decide (0 ≤ at_ ∧ at_ < (n : Int)) = true := decide_eq_true ⟨h0, h1⟩
   rw [e]
   go_enter Try.func48, Try.ntmps48
   go_wp2
   go_ret
   exact ⟨rfl, Below.refl _ _⟩
  ·have e : decide (0 ≤ at_ ∧ at_ < (n : Int)) = false := decide_eq_false (by omega)
   rw [e]
   go_enter Try.func48, Try.ntmps48
   go_wp2
   go_ret
   exact ⟨rfl, Below.refl _ _⟩
 ·have e : decide (0 ≤ at_ ∧ at_ < (n : Int)) = false := decide_eq_false (by omega)
  rw [e]
  go_enter Try.func48, Try.ntmps48
  go_wp2
  go_ret
  exact ⟨rfl, Below.refl _ _⟩
set_option maxRecDepth 100000 in
set_option maxHeartbeats 4000000 in
theorem new_bad (n : Int) (h : n < 0 ∨ n > 16777216) {w : World} : Calls Try.prog 13 #[.int .i64 n] w fun e w' => e = .returned (.tuple #[.pointer none, .int .i64 1]) ∧ Below w.heap.size w w' := by
 by_cases h0 : n < 0
 ·clear h
  go_enter Try.func13, Try.ntmps13
  go_wp2
  refine bodyPost_ret (results_tmp2 rfl _ _ _) rfl ?_
  exact ⟨rfl, Below.refl _ _⟩
 ·have h1 : n > 16777216 := by omega
  clear h
  go_enter Try.func13, Try.ntmps13
  go_wp2
  refine bodyPost_ret (results_tmp2 rfl _ _ _) rfl ?_
  exact ⟨rfl, Below.refl _ _⟩
set_option maxRecDepth 100000 in
set_option maxHeartbeats 4000000 in
theorem new_c (n : Nat) (h : n ≤ 16777216) {w : World} : Calls Try.prog 13 #[.int .i64 n] w fun e w' => ∃ b, e = .returned (.tuple #[ptr b, .int .i64 0]) ∧ CellsAt 51 w' (fun k => w.heap.size ≤ k) b (List.replicate n []) [] ∧ Below w.heap.size w w' := by
 have h0 : ¬ (n : Int) < 0 := by omega
 have h1 : ¬ (n : Int) > 16777216 := by omega
 have HN : Aside0 (n ≤ 16777216) := ⟨h⟩
 clear h
 go_enter Try.func13, Try.ntmps13
 go_wp2_with (first | ((with_reducible refine gate_dst (N := 11) rfl ?_); refine Kd.R_make KH (w0 := w) w.heap.size 31 rfl rfl 48 (.tmp 10) (.tmp 10) rfl (n : Int) (by first | (go_simp; done) | (go_simp; rfl)) (by first | (go_simp; done) | (go_simp; rfl)) Try.underlying48 (.slice none 0 0) 24 info31 rfl (by decide) (by omega) ((none, 0, 0) : Hd) (ok := fun k => w.heap.size ≤ k) (okp := fun _ => False) rfl (fun _ h => h.elim) (Nat.le_refl _) (by omega) (by have := HN.out; simp only [Int.toNat_natCast]; omega) (Below.refl _ _) (Nat.le_refl _) ?_; intro v8 w1 hv hb hg hat; rw [Int.toNat_natCast] at hv; obtain ⟨A1, c1, e8⟩ := Kd.R_slice hv; rw [List.length_replicate] at e8; subst e8; have HR1 := Aside0.mk (RowAt.bound (RowAt.nils hv)); have HB1 := Aside0.mk hb; clear hv hb hg hat) | ((with_reducible refine gate_dst (N := 13) rfl ?_); refine box_event ?hg (N := 13) ?hd (cs := #[.slice A1 n c1, .slice none 0 0]) (t := 51) ?hr ?_; (case hd => rfl); (case hg => rfl); (case hr => first | (go_simp; done) | (go_simp; rfl)); intro gb hg w6 hbox hb; have HX := Aside0.mk hbox; have HG : Aside0 (w.heap.size ≤ gb) := ⟨by rw [hg]; exact HB1.out.size⟩; have HR6 : Aside0 (RowAt w6 (fun k => w.heap.size ≤ k ∧ k < gb) _ _) := ⟨by rw [hg]; exact (HR1.out.kept (S := fun _ => False) (Kept.of_below hb _) (fun _ _ h => h))⟩; have HR7 := Aside0.mk (HR1.out.kept (S := fun _ => False) (Kept.of_below hb _) (fun _ _ h => h)); have HB6 : Aside0 (Below w.heap.size w w6) := ⟨below_step HB1.out hb⟩; clear hg hbox hb))
 refine bodyPost_ret (results_tmp2 rfl _ _ _) rfl ?_
 exact ⟨gb, rfl, ⟨fun k => w.heap.size ≤ k ∧ k < gb, fun _ => False, _, _, fun k hk => ⟨hk.1, by omega⟩, fun _ h => h.elim, HG.out, HX.out, HR6.out, Kd.R_nil _ _ _ _ _⟩, HB6.out⟩
set_option maxRecDepth 100000 in
set_option maxHeartbeats 4000000 in
theorem set_bad {w : World} {D : Nat → Prop} {b : Nat} {L : List (List Int)} {J : List S33} (h : CellsAt 51 w D b L J) (at_ : Int) (hat : ¬ (0 ≤ at_ ∧ at_ < (L.length : Int))) (v : Value) : Calls Try.prog 24 #[ptr b, .int .i64 at_, v] w fun e w' => e = .returned (.int .i64 1) ∧ Below w.heap.size w w' := by
 obtain ⟨Dr, Dt, A, c, vt, hp⟩ := h.open_
 have c0 := (blk_cell hp.h1 0).trans rfl
 have HD : Aside0 (decide (0 ≤ at_ ∧ at_ < (L.length : Int)) = false) := ⟨decide_eq_false hat⟩
 clear h hp hat
 go_enter Try.func24, Try.ntmps24
 go_wp2_with (go_at_call 48; refine (has_c A L.length c at_).mono ?_; rintro e w1 ⟨rfl, hb⟩; rw [HD.out]; have HB := Aside0.mk hb; clear hb)
 go_ret
 exact ⟨rfl, HB.out⟩
set_option maxRecDepth 100000 in
set_option maxHeartbeats 4000000 in
theorem set_c {w : World} {D : Nat → Prop} {b : Nat} {L : List (List Int)} {J : List S33} (h : CellsAt 51 w D b L J) (k : Nat) (hk : k < L.length) {v : Value} {x : List Int} (hx : SL w v x) (hm : x.length ≤ 1000000) :
 Calls Try.prog 24 #[ptr b, .int .i64 k, v] w fun e w' => e = .returned (.int .i64 0) ∧ CellsAt 51 w' (fun q => D q ∨ w.heap.size ≤ q) b (L.set k x) J ∧ Eff w w' D := by
 obtain ⟨Dr, Dt, A, c, vt, hp⟩ := h.open_
 obtain ⟨g, cap, cells, e, hg, hlt, hblk⟩ := hp.h2.form (by omega)
 injection e with e1 e2 e3
 subst e1
 subst e3
 have c0 := (blk_cell hp.h1 0).trans rfl
 have HD : Aside0 (decide (0 ≤ (k : Int) ∧ (k : Int) < (L.length : Int)) = true) := ⟨decide_eq_true (by omega)⟩
 have HP := Aside0.mk hp
 have HX := Aside0.mk hx
 have HM := Aside0.mk hm
 have HK := Aside0.mk hk
 have hkI : (k : Int) < (L.length : Int) := by omega
 have hk0 : 0 ≤ (k : Int) := by omega
 have etk : (k : Int).toNat = k := Int.toNat_natCast _
 clear h hp hx hm hg hblk hk hlt
 go_enter Try.func24, Try.ntmps24
 go_upto_region 3 with (go_at_call 48; refine (has_c _ L.length c k).mono ?_; rintro e w1 ⟨rfl, hb⟩; rw [HD.out]; have HB := Aside0.mk hb; have HX1 := Aside0.mk (SLk.below HX.out hb); have HP1 := Aside0.mk (HP.out.below hb); have c1 := (blk_cell HP1.out.h1 0).trans rfl; clear hb)
 have hB1 := HB.out
 have HBD : Aside0 (Below w1.heap.size w1 w1.drew) := ⟨below_drew (Below.refl _ _)⟩
 refine start_ (n := 9) (S := (fun W => Below w1.heap.size w1 W)) (ds := [8]) #[false, false, false, false, false, false, false, false, false] (by kernel_rfl) (by kernel_rfl) (by rfl) HBD.out (fun hS0 => ?_)
 refine pure_ (i := 0) (N := (some 18)) (v := ?_) (a' := ?_) #[true, false, false, false, false, false, false, false, false] rfl rfl (by kernel_rfl) (fun _ _ _ h => h) (Or.inl ⟨by rfl, ?_⟩) ?_ ?_
 rotate_left
 ·intro w'
  go_simp
  with_reducible rfl
 rotate_left
 ·simp only [Act.put, List.setIfInBounds_toArray, List.set_cons_zero, List.set_cons_succ]
  rfl
 refine pure_ (i := 1) (N := (some 19)) (v := ?_) (a' := ?_) #[true, true, false, false, false, false, false, false, false] rfl rfl (by kernel_rfl) (fun _ _ _ h => h) (Or.inl ⟨by rfl, ?_⟩) ?_ ?_
 rotate_left
 ·intro w'
  go_simp
  with_reducible rfl
 rotate_left
 ·simp only [Act.put, List.setIfInBounds_toArray, List.set_cons_zero, List.set_cons_succ]
  rfl
 refine pure_ (i := 2) (N := (some 20)) (v := ?_) (a' := ?_) #[true, true, true, false, false, false, false, false, false] rfl rfl (by kernel_rfl) (fun _ _ _ h => h) (Or.inl ⟨by rfl, ?_⟩) ?_ ?_
 rotate_left
 ·intro w'
  go_simp
  with_reducible rfl
 rotate_left
 ·simp only [Act.put, List.setIfInBounds_toArray, List.set_cons_zero, List.set_cons_succ]
  rfl
 refine take_ (i := 3) (N := (some 21)) (v := ?_) (a' := ?_) #[true, true, true, true, false, false, false, false, false] rfl rfl (by kernel_rfl) (fun _ _ _ h => h) (Or.inl ⟨by rfl, ?_⟩) hS0 ?_ ?_
 rotate_left
 ·intro w' s0
  have hx0 := (s0.cell (World.block_lt_of_cell? _ _ c1)).trans c1
  go_simp
  with_reducible rfl
 rotate_left
 ·simp only [Act.put, List.setIfInBounds_toArray, List.set_cons_zero, List.set_cons_succ]
  rfl
 refine pure_ (i := 4) (N := (some 22)) (v := ?_) (a' := ?_) #[true, true, true, true, true, false, false, false, false] rfl rfl (by kernel_rfl) (fun _ _ _ h => h) (Or.inl ⟨by rfl, ?_⟩) ?_ ?_
 rotate_left
 ·intro w'
  go_simp
  with_reducible rfl
 rotate_left
 ·simp only [Act.put, List.setIfInBounds_toArray, List.set_cons_zero, List.set_cons_succ]
  rfl
 refine pure_ (i := 5) (N := (some 23)) (v := ?_) (a' := ?_) #[true, true, true, true, true, true, false, false, false] rfl rfl (by kernel_rfl) (fun _ _ _ h => h) (Or.inl ⟨by rfl, ?_⟩) ?_ ?_
 rotate_left
 ·intro w'
  go_simp
  with_reducible rfl
 rotate_left
 ·simp only [Act.put, List.setIfInBounds_toArray, List.set_cons_zero, List.set_cons_succ]
  rfl
 clear hS0
 refine one_ (i := 6) (N := (some 24)) #[true, true, true, true, true, true, true, false, false] rfl rfl (by kernel_rfl) (by decide) (fun K hK => ?_)
 refine goes_ Try.func42 (by kernel_rfl) rfl #[v] (by rfl) rfl rfl (by go_simp; done) ?_
 refine (clone_c (SLk.below HX1.out HBD.out) HM.out).mono ?_
 rintro e w2 ⟨u, rfl, hR, hb2⟩
 obtain ⟨AU, cu, eu⟩ := Kd.R_slice hR
 subst eu
 refine ⟨_, rfl, ?_⟩
 have HU : Aside0 (SLD w2 (fun q => w.heap.size ≤ q) (.slice AU x.length cu) x) := ⟨SLD.of_R (Kd.R_mono (Kd.R_bound hR) (fun q hq => Nat.le_trans HB.out.size (Nat.le_trans HBD.out.size hq.2.1)))⟩
 have HB2 : Aside0 (Below w1.heap.size w1 w2) := ⟨below_step HBD.out hb2⟩
 clear hR hb2
 change K (Act.put _ (some 24) _) _
 refine hK.out _ _ HB2.out (fun hS0 => ?_)
 clear hK
 refine norm_ (a' := ?_) ?_ ?_
 rotate_left
 ·simp only [Act.put, List.setIfInBounds_toArray, List.set_cons_zero, List.set_cons_succ]
  rfl
 obtain ⟨hd2, z0, z1, -⟩ := (HP1.out.below HB2.out).h2.cell k HK.out
 refine pure_ (i := 7) (N := (some 25)) (v := ?_) (a' := ?_) #[true, true, true, true, true, true, true, true, false] rfl rfl (by kernel_rfl) (fun _ _ _ h => h) (Or.inl ⟨by rfl, ?_⟩) ?_ ?_
 rotate_left
 ·intro w'
  go_simp
  with_reducible rfl
 rotate_left
 ·simp only [Act.put, List.setIfInBounds_toArray, List.set_cons_zero, List.set_cons_succ]
  rfl
 clear hS0
 refine last_ (i := 8) (N := none) #[true, true, true, true, true, true, true, true, true] rfl rfl (by kernel_rfl) (by decide) (fun K hK => ?_)
 refine skip_ (w1 := w2.setCell ⟨g, k, none⟩ (.slice AU x.length cu)) (by rfl) rfl (by go_simp) ?_
 refine hK.out _ _ ?_
 clear hK
 refine done_ (by kernel_rfl) ?_
 go_wp2
 go_ret
 obtain ⟨q1, _, q3⟩ := HP.out.put (below_step HB.out HB2.out) k HK.out HU.out
 exact ⟨rfl, q1, q3⟩
end Go.Proofs.Ytohhobcipfmkbaa.Cel
end
section
namespace Go.Proofs.Ytohhobcipfmkbaa.Cel
open Go.RowKit Go.Proofs.YtohhobcipfmkbaaW.PrintWords Go.Proofs.YtohhobcipfmkbaaW.PrintMore Go.Proofs.YtohhobcipfmkbaaW.PrintLast Go.Proofs.Ytohhobcipfmkbaa.U Go.Proofs.Ytohhobcipfmkbaa.PClusterFinest
theorem two_slk {w : World} {g : Nat} {vx vy : Value} {x y : List Int} (h : w.heap[g]? = some (.cells #[vx, vy] 31 (0, 0))) (hx : SL w vx x) (hy : SL w vy y) : SLk (Kd.slice 3 (Kd.int .i64)) w (.slice (some ⟨g, 0, none⟩) 2 2) [x, y] := by
 obtain ⟨A, c, rfl, hc, hC⟩ := hx
 obtain ⟨B, d, rfl, hd, hD⟩ := hy
 refine ⟨_, _, rfl, Nat.le_refl _, rfl, by simp, fun _ => ⟨_, rfl, fun j p hj => ?_⟩⟩
 match j, hj with
 | 0, hj =>
  obtain rfl := Option.some.inj hj
  refine ⟨_, rfl, ⟨A, c, rfl, hc, hC⟩, fun k u hu => ?_⟩
  cases k with
  | zero => rw [add_plain, blk_cell h]; exact hu
  | succ k => simp at hu
 | 1, hj =>
  obtain rfl := Option.some.inj hj
  refine ⟨_, rfl, ⟨B, d, rfl, hd, hD⟩, fun k u hu => ?_⟩
  cases k with
  | zero => rw [add_plain, blk_cell h]; exact hu
  | succ k => simp at hu
set_option maxRecDepth 100000 in
set_option maxHeartbeats 4000000 in
theorem ahead_bad {w : World} {D : Nat → Prop} {b : Nat} {J : List S33} (h : CellsAt 51 w D b [] J) (v : Value) : Calls Try.prog 25 #[ptr b, v] w fun e w' => e = .returned (.int .i64 1) ∧ Below w.heap.size w w' := by
 obtain ⟨Dr, Dt, A, c, vt, hp⟩ := h.open_
 have c0 := (blk_cell hp.h1 0).trans rfl
 clear h hp
 go_enter Try.func25, Try.ntmps25
 go_wp2
 go_ret
 exact ⟨rfl, Below.refl _ _⟩
set_option maxRecDepth 100000 in
set_option maxHeartbeats 4000000 in
theorem behind_bad {w : World} {D : Nat → Prop} {b : Nat} {J : List S33} (h : CellsAt 51 w D b [] J) (v : Value) : Calls Try.prog 26 #[ptr b, v] w fun e w' => e = .returned (.int .i64 1) ∧ Below w.heap.size w w' := by
 obtain ⟨Dr, Dt, A, c, vt, hp⟩ := h.open_
 have c0 := (blk_cell hp.h1 0).trans rfl
 clear h hp
 go_enter Try.func26, Try.ntmps26
 go_wp2
 go_ret
 exact ⟨rfl, Below.refl _ _⟩
set_option maxRecDepth 100000 in
set_option maxHeartbeats 4000000 in
theorem ahead_c {w : World} {D : Nat → Prop} {b : Nat} {L : List (List Int)} {J : List S33} (h : CellsAt 51 w D b L J) (hl : 0 < L.length) (hl8 : L.length ≤ 100000000) {v : Value} {x : List Int} (hx : SL w v x) (hm : x.length + (L[0]'(by omega)).length ≤ 1000000) :
 Calls Try.prog 25 #[ptr b, v] w fun e w' => e = .returned (.int .i64 0) ∧ CellsAt 51 w' (fun q => D q ∨ w.heap.size ≤ q) b (L.set (0) (x ++ L[0]'(by omega))) J ∧ Eff w w' D := by
 obtain ⟨k, hk⟩ : ∃ k, k = 0 := ⟨_, rfl⟩
 have hkl : k < L.length := by omega
 obtain ⟨y, hy⟩ : ∃ y, y = L[k] := ⟨_, rfl⟩
 have hyy : L[0]'(by omega) = y := by subst hk; exact hy.symm
 rw [hyy] at hm ⊢
 rw [← hk]
 obtain ⟨Dr, Dt, A, c, vt, hp⟩ := h.open_
 obtain ⟨g, cap, cells, e, hg, hlt, hblk⟩ := hp.h2.form hl
 injection e with e1 e2 e3
 subst e1
 subst e3
 obtain ⟨hd, z0, z1, z2⟩ := hp.h2.cell k hkl
 rw [← hy] at z2
 obtain ⟨Ay, cy, ey, _, _⟩ := z2.1
 rw [ey] at z0 z2
 obtain ⟨Ax, cx, rfl, hcx, hCx⟩ := hx
 have HX : Aside0 (SL w (.slice Ax x.length cx) x) := ⟨⟨Ax, cx, rfl, hcx, hCx⟩⟩
 have HY := Aside0.mk z2.1
 have c0 := (blk_cell hp.h1 0).trans rfl
 have HP := Aside0.mk hp
 have HM := Aside0.mk hm
 have HK := Aside0.mk hkl
 have hkI : (k : Int) < (L.length : Int) := by omega
 have hlI : (0 : Int) < (L.length : Int) := by omega
 have hl0 : ¬ (L.length : Int) = 0 := by omega
 have hk0 : 0 ≤ (k : Int) := by omega
 have etk : (k : Int).toNat = k := Int.toNat_natCast _
 have HKE := Aside0.mk hk
 subst hk
 have HKZ : Aside0 True := ⟨trivial⟩
 clear h hp hm hg hblk hlt hkl hy hyy z1 z2 hcx hCx ey
 go_enter Try.func25, Try.ntmps25
 go_upto_region 3 with (fail)
 have HBD : Aside0 (Below w.heap.size w w.drew) := ⟨below_drew (Below.refl _ _)⟩
 refine start_ (n := 15) (S := (fun W => Below w.heap.size w W)) (ds := [14]) #[false, false, false, false, false, false, false, false, false, false, false, false, false, false, false] (by kernel_rfl) (by kernel_rfl) (by rfl) HBD.out (fun hS0 => ?_)
 refine pure_ (i := 0) (N := (some 15)) (v := ?_) (a' := ?_) #[true, false, false, false, false, false, false, false, false, false, false, false, false, false, false] rfl rfl (by kernel_rfl) (fun _ _ _ h => h) (Or.inl ⟨by rfl, ?_⟩) ?_ ?_
 rotate_left
 ·intro w'
  go_simp
  with_reducible rfl
 rotate_left
 ·simp only [Act.put, List.setIfInBounds_toArray, List.set_cons_zero, List.set_cons_succ]
  rfl
 refine pure_ (i := 1) (N := (some 16)) (v := ?_) (a' := ?_) #[true, true, false, false, false, false, false, false, false, false, false, false, false, false, false] rfl rfl (by kernel_rfl) (fun _ _ _ h => h) (Or.inl ⟨by rfl, ?_⟩) ?_ ?_
 rotate_left
 ·intro w'
  go_simp
  with_reducible rfl
 rotate_left
 ·simp only [Act.put, List.setIfInBounds_toArray, List.set_cons_zero, List.set_cons_succ]
  rfl
 refine pure_ (i := 2) (N := (some 17)) (v := ?_) (a' := ?_) #[true, true, true, false, false, false, false, false, false, false, false, false, false, false, false] rfl rfl (by kernel_rfl) (fun _ _ _ h => h) (Or.inl ⟨by rfl, ?_⟩) ?_ ?_
 rotate_left
 ·intro w'
  go_simp
  with_reducible rfl
 rotate_left
 ·simp only [Act.put, List.setIfInBounds_toArray, List.set_cons_zero, List.set_cons_succ]
  rfl
 refine take_ (i := 3) (N := (some 18)) (v := ?_) (a' := ?_) #[true, true, true, true, false, false, false, false, false, false, false, false, false, false, false] rfl rfl (by kernel_rfl) (fun _ _ _ h => h) (Or.inl ⟨by rfl, ?_⟩) hS0 ?_ ?_
 rotate_left
 ·intro w' s0
  have hx0 := (s0.cell (World.block_lt_of_cell? _ _ c0)).trans c0
  go_simp
  with_reducible rfl
 rotate_left
 ·simp only [Act.put, List.setIfInBounds_toArray, List.set_cons_zero, List.set_cons_succ]
  rfl
 refine pure_ (i := 4) (N := (some 19)) (v := ?_) (a' := ?_) #[true, true, true, true, true, false, false, false, false, false, false, false, false, false, false] rfl rfl (by kernel_rfl) (fun _ _ _ h => h) (Or.inl ⟨by rfl, ?_⟩) ?_ ?_
 rotate_left
 ·intro w'
  go_simp
  with_reducible rfl
 rotate_left
 ·simp only [Act.put, List.setIfInBounds_toArray, List.set_cons_zero, List.set_cons_succ]
  rfl
 refine pure_ (i := 5) (N := (some 20)) (v := ?_) (a' := ?_) #[true, true, true, true, true, true, false, false, false, false, false, false, false, false, false] rfl rfl (by kernel_rfl) (fun _ _ _ h => h) (Or.inl ⟨by rfl, ?_⟩) ?_ ?_
 rotate_left
 ·intro w'
  go_simp
  with_reducible rfl
 rotate_left
 ·simp only [Act.put, List.setIfInBounds_toArray, List.set_cons_zero, List.set_cons_succ]
  rfl
 refine pure_ (i := 6) (N := (some 21)) (v := ?_) (a' := ?_) #[true, true, true, true, true, true, true, false, false, false, false, false, false, false, false] rfl rfl (by kernel_rfl) (fun _ _ _ h => h) (Or.inl ⟨by rfl, ?_⟩) ?_ ?_
 rotate_left
 ·intro w'
  go_simp
  with_reducible rfl
 rotate_left
 ·simp only [Act.put, List.setIfInBounds_toArray, List.set_cons_zero, List.set_cons_succ]
  rfl
 refine pure_ (i := 7) (N := (some 22)) (v := ?_) (a' := ?_) #[true, true, true, true, true, true, true, true, false, false, false, false, false, false, false] rfl rfl (by kernel_rfl) (fun _ _ _ h => h) (Or.inl ⟨by rfl, ?_⟩) ?_ ?_
 rotate_left
 ·intro w'
  go_simp
  with_reducible rfl
 rotate_left
 ·simp only [Act.put, List.setIfInBounds_toArray, List.set_cons_zero, List.set_cons_succ]
  rfl
 refine take_ (i := 8) (N := (some 23)) (v := ?_) (a' := ?_) #[true, true, true, true, true, true, true, true, true, false, false, false, false, false, false] rfl rfl (by kernel_rfl) (fun _ _ _ h => h) (Or.inl ⟨by rfl, ?_⟩) hS0 ?_ ?_
 rotate_left
 ·intro w' s0
  have hx0 := (s0.cell (World.block_lt_of_cell? _ _ c0)).trans c0
  go_simp
  with_reducible rfl
 rotate_left
 ·simp only [Act.put, List.setIfInBounds_toArray, List.set_cons_zero, List.set_cons_succ]
  rfl
 refine pure_ (i := 9) (N := (some 24)) (v := ?_) (a' := ?_) #[true, true, true, true, true, true, true, true, true, true, false, false, false, false, false] rfl rfl (by kernel_rfl) (fun _ _ _ h => h) (Or.inl ⟨by rfl, ?_⟩) ?_ ?_
 rotate_left
 ·intro w'
  go_simp
  with_reducible rfl
 rotate_left
 ·simp only [Act.put, List.setIfInBounds_toArray, List.set_cons_zero, List.set_cons_succ]
  rfl
 refine take_ (i := 10) (N := (some 25)) (v := ?_) (a' := ?_) #[true, true, true, true, true, true, true, true, true, true, true, false, false, false, false] rfl rfl (by kernel_rfl) (fun _ _ _ h => h) (Or.inl ⟨by rfl, ?_⟩) hS0 ?_ ?_
 rotate_left
 ·intro w' s0
  have hx0 := (s0.cell (World.block_lt_of_cell? _ _ z0)).trans z0
  go_simp
  with_reducible rfl
 rotate_left
 ·simp only [Act.put, List.setIfInBounds_toArray, List.set_cons_zero, List.set_cons_succ]
  rfl
 clear hS0
 refine one_ (i := 11) (N := (some 26)) #[true, true, true, true, true, true, true, true, true, true, true, true, false, false, false] rfl rfl (by kernel_rfl) (by decide) (fun K hK => ?_)
 obtain ⟨wA, ewA⟩ : ∃ W, W = w.drew.alloc (.cells #[.slice Ax x.length cx, .slice Ay y.length cy] 31 (0, 0)) := ⟨_, rfl⟩
 obtain ⟨ga, hga⟩ : ∃ ga, ga = w.drew.heap.size := ⟨_, rfl⟩
 have HBA : Aside0 (Below w.heap.size w wA) := ⟨by rw [ewA]; exact below_alloc HBD.out _⟩
 have HXA : Aside0 (wA.heap[ga]? = some (.cells #[.slice Ax x.length cx, .slice Ay y.length cy] 31 (0, 0))) := ⟨by rw [ewA, hga]; exact (MapKept.heap_alloc w.drew _).1⟩
 refine value_ (w1 := wA) (v := .slice (some ⟨ga, 0, none⟩) 2 2) (by rfl) rfl (by rw [ewA, hga]; go_simp) ?_
 clear ewA hga
 change K (Act.put _ (some 26) _) _
 refine hK.out _ _ HBA.out (fun hS0 => ?_)
 clear hK
 refine norm_ (a' := ?_) ?_ ?_
 rotate_left
 ·simp only [Act.put, List.setIfInBounds_toArray, List.set_cons_zero, List.set_cons_succ]
  rfl
 clear hS0
 refine one_ (i := 12) (N := (some 27)) #[true, true, true, true, true, true, true, true, true, true, true, true, true, false, false] rfl rfl (by kernel_rfl) (by decide) (fun K hK => ?_)
 refine goes_ Try.func47 (by kernel_rfl) rfl #[.slice (some ⟨ga, 0, none⟩) 2 2] (by rfl) rfl rfl (by go_simp; done) ?_
 refine (concat_c (two_slk HXA.out (SLk.below HX.out HBA.out) (SLk.below HY.out HBA.out)) (by simp) (by simp only [List.flatten_cons, List.flatten_nil, List.append_nil, List.length_append]; have := HM.out; omega)).mono ?_
 rintro e w2 ⟨u, rfl, hR, hb2⟩
 rw [show [x, y].flatten = x ++ y by simp] at hR
 obtain ⟨AU, cu, eu⟩ := Kd.R_slice hR
 subst eu
 refine ⟨_, rfl, ?_⟩
 have HU : Aside0 (SLD w2 (fun q => w.heap.size ≤ q) (.slice AU (x ++ y).length cu) (x ++ y)) := ⟨SLD.of_R (Kd.R_mono (Kd.R_bound hR) (fun q hq => Nat.le_trans HBA.out.size hq.2.1))⟩
 have HB2 : Aside0 (Below w.heap.size w w2) := ⟨below_step HBA.out hb2⟩
 clear hR hb2
 change K (Act.put _ (some 27) _) _
 refine hK.out _ _ HB2.out (fun hS0 => ?_)
 clear hK
 refine norm_ (a' := ?_) ?_ ?_
 rotate_left
 ·simp only [Act.put, List.setIfInBounds_toArray, List.set_cons_zero, List.set_cons_succ]
  rfl
 obtain ⟨hd2, y0, y1, -⟩ := (HP.out.below HB2.out).h2.cell 0 HK.out
 refine pure_ (i := 13) (N := (some 28)) (v := ?_) (a' := ?_) #[true, true, true, true, true, true, true, true, true, true, true, true, true, true, false] rfl rfl (by kernel_rfl) (fun _ _ _ h => h) (Or.inl ⟨by rfl, ?_⟩) ?_ ?_
 rotate_left
 ·intro w'
  go_simp
  with_reducible rfl
 rotate_left
 ·simp only [Act.put, List.setIfInBounds_toArray, List.set_cons_zero, List.set_cons_succ]
  rfl
 clear hS0
 refine last_ (i := 14) (N := none) #[true, true, true, true, true, true, true, true, true, true, true, true, true, true, true] rfl rfl (by kernel_rfl) (by decide) (fun K hK => ?_)
 refine skip_ (w1 := w2.setCell ⟨g, 0, none⟩ (.slice AU (x ++ y).length cu)) (by rfl) rfl (by go_simp) ?_
 refine hK.out _ _ ?_
 clear hK
 refine done_ (by kernel_rfl) ?_
 go_wp2
 go_ret
 obtain ⟨q1, _, q3⟩ := HP.out.put HB2.out 0 HK.out HU.out
 rw [List.length_append] at q1 q3
 exact ⟨rfl, q1, q3⟩
set_option maxRecDepth 100000 in
set_option maxHeartbeats 4000000 in
theorem behind_c {w : World} {D : Nat → Prop} {b : Nat} {L : List (List Int)} {J : List S33} (h : CellsAt 51 w D b L J) (hl : 0 < L.length) (hl8 : L.length ≤ 100000000) {v : Value} {x : List Int} (hx : SL w v x) (hm : x.length + (L[L.length - 1]'(by omega)).length ≤ 1000000) :
 Calls Try.prog 26 #[ptr b, v] w fun e w' => e = .returned (.int .i64 0) ∧ CellsAt 51 w' (fun q => D q ∨ w.heap.size ≤ q) b (L.set (L.length - 1) (L[L.length - 1]'(by omega) ++ x)) J ∧ Eff w w' D := by
 obtain ⟨k, hk⟩ : ∃ k, k = L.length - 1 := ⟨_, rfl⟩
 have hkl : k < L.length := by omega
 obtain ⟨y, hy⟩ : ∃ y, y = L[k] := ⟨_, rfl⟩
 have hyy : L[L.length - 1]'(by omega) = y := by subst hk; exact hy.symm
 rw [hyy] at hm ⊢
 rw [← hk]
 obtain ⟨Dr, Dt, A, c, vt, hp⟩ := h.open_
 obtain ⟨g, cap, cells, e, hg, hlt, hblk⟩ := hp.h2.form hl
 injection e with e1 e2 e3
 subst e1
 subst e3
 obtain ⟨hd, z0, z1, z2⟩ := hp.h2.cell k hkl
 rw [← hy] at z2
 obtain ⟨Ay, cy, ey, _, _⟩ := z2.1
 rw [ey] at z0 z2
 obtain ⟨Ax, cx, rfl, hcx, hCx⟩ := hx
 have HX : Aside0 (SL w (.slice Ax x.length cx) x) := ⟨⟨Ax, cx, rfl, hcx, hCx⟩⟩
 have HY := Aside0.mk z2.1
 have c0 := (blk_cell hp.h1 0).trans rfl
 have HP := Aside0.mk hp
 have HM := Aside0.mk hm
 have HK := Aside0.mk hkl
 have hkI : (k : Int) < (L.length : Int) := by omega
 have hlI : (0 : Int) < (L.length : Int) := by omega
 have hl0 : ¬ (L.length : Int) = 0 := by omega
 have hk0 : 0 ≤ (k : Int) := by omega
 have etk : (k : Int).toNat = k := Int.toNat_natCast _
 have HKE := Aside0.mk hk
 have ek : IntKind.i64.wrap ((L.length : Int) - 1) = (k : Int) := by rw [IntWalk.i64_in _ (by omega)]; omega
 clear h hp hm hg hblk hlt hkl hy hyy z1 z2 hcx hCx ey hk
 go_enter Try.func26, Try.ntmps26
 go_upto_region 4 with (fail)
 have HBD : Aside0 (Below w.heap.size w w.drew) := ⟨below_drew (Below.refl _ _)⟩
 refine start_ (n := 17) (S := (fun W => Below w.heap.size w W)) (ds := [16]) #[false, false, false, false, false, false, false, false, false, false, false, false, false, false, false, false, false] (by kernel_rfl) (by kernel_rfl) (by rfl) HBD.out (fun hS0 => ?_)
 refine pure_ (i := 0) (N := (some 22)) (v := ?_) (a' := ?_) #[true, false, false, false, false, false, false, false, false, false, false, false, false, false, false, false, false] rfl rfl (by kernel_rfl) (fun _ _ _ h => h) (Or.inl ⟨by rfl, ?_⟩) ?_ ?_
 rotate_left
 ·intro w'
  go_simp
  with_reducible rfl
 rotate_left
 ·simp only [Act.put, List.setIfInBounds_toArray, List.set_cons_zero, List.set_cons_succ]
  rfl
 refine pure_ (i := 1) (N := (some 23)) (v := ?_) (a' := ?_) #[true, true, false, false, false, false, false, false, false, false, false, false, false, false, false, false, false] rfl rfl (by kernel_rfl) (fun _ _ _ h => h) (Or.inl ⟨by rfl, ?_⟩) ?_ ?_
 rotate_left
 ·intro w'
  go_simp
  with_reducible rfl
 rotate_left
 ·simp only [Act.put, List.setIfInBounds_toArray, List.set_cons_zero, List.set_cons_succ]
  rfl
 refine pure_ (i := 2) (N := (some 24)) (v := ?_) (a' := ?_) #[true, true, true, false, false, false, false, false, false, false, false, false, false, false, false, false, false] rfl rfl (by kernel_rfl) (fun _ _ _ h => h) (Or.inl ⟨by rfl, ?_⟩) ?_ ?_
 rotate_left
 ·intro w'
  go_simp
  with_reducible rfl
 rotate_left
 ·simp only [Act.put, List.setIfInBounds_toArray, List.set_cons_zero, List.set_cons_succ]
  rfl
 refine take_ (i := 3) (N := (some 25)) (v := ?_) (a' := ?_) #[true, true, true, true, false, false, false, false, false, false, false, false, false, false, false, false, false] rfl rfl (by kernel_rfl) (fun _ _ _ h => h) (Or.inl ⟨by rfl, ?_⟩) hS0 ?_ ?_
 rotate_left
 ·intro w' s0
  have hx0 := (s0.cell (World.block_lt_of_cell? _ _ c0)).trans c0
  go_simp
  with_reducible rfl
 rotate_left
 ·simp only [Act.put, List.setIfInBounds_toArray, List.set_cons_zero, List.set_cons_succ]
  rfl
 refine pure_ (i := 4) (N := (some 26)) (v := ?_) (a' := ?_) #[true, true, true, true, true, false, false, false, false, false, false, false, false, false, false, false, false] rfl rfl (by kernel_rfl) (fun _ _ _ h => h) (Or.inl ⟨by rfl, ?_⟩) ?_ ?_
 rotate_left
 ·intro w'
  go_simp
  with_reducible rfl
 rotate_left
 ·simp only [Act.put, List.setIfInBounds_toArray, List.set_cons_zero, List.set_cons_succ]
  rfl
 refine pure_ (i := 5) (N := (some 27)) (v := ?_) (a' := ?_) #[true, true, true, true, true, true, false, false, false, false, false, false, false, false, false, false, false] rfl rfl (by kernel_rfl) (fun _ _ _ h => h) (Or.inl ⟨by rfl, ?_⟩) ?_ ?_
 rotate_left
 ·intro w'
  go_simp
  with_reducible rfl
 rotate_left
 ·simp only [Act.put, List.setIfInBounds_toArray, List.set_cons_zero, List.set_cons_succ]
  rfl
 refine pure_ (i := 6) (N := (some 28)) (v := ?_) (a' := ?_) #[true, true, true, true, true, true, true, false, false, false, false, false, false, false, false, false, false] rfl rfl (by kernel_rfl) (fun _ _ _ h => h) (Or.inl ⟨by rfl, ?_⟩) ?_ ?_
 rotate_left
 ·intro w'
  go_simp
  with_reducible rfl
 rotate_left
 ·simp only [Act.put, List.setIfInBounds_toArray, List.set_cons_zero, List.set_cons_succ]
  rfl
 refine pure_ (i := 7) (N := (some 29)) (v := ?_) (a' := ?_) #[true, true, true, true, true, true, true, true, false, false, false, false, false, false, false, false, false] rfl rfl (by kernel_rfl) (fun _ _ _ h => h) (Or.inl ⟨by rfl, ?_⟩) ?_ ?_
 rotate_left
 ·intro w'
  go_simp
  with_reducible rfl
 rotate_left
 ·simp only [Act.put, List.setIfInBounds_toArray, List.set_cons_zero, List.set_cons_succ]
  rfl
 refine take_ (i := 8) (N := (some 30)) (v := ?_) (a' := ?_) #[true, true, true, true, true, true, true, true, true, false, false, false, false, false, false, false, false] rfl rfl (by kernel_rfl) (fun _ _ _ h => h) (Or.inl ⟨by rfl, ?_⟩) hS0 ?_ ?_
 rotate_left
 ·intro w' s0
  have hx0 := (s0.cell (World.block_lt_of_cell? _ _ c0)).trans c0
  go_simp
  with_reducible rfl
 rotate_left
 ·simp only [Act.put, List.setIfInBounds_toArray, List.set_cons_zero, List.set_cons_succ]
  rfl
 refine pure_ (i := 9) (N := (some 31)) (v := ?_) (a' := ?_) #[true, true, true, true, true, true, true, true, true, true, false, false, false, false, false, false, false] rfl rfl (by kernel_rfl) (fun _ _ _ h => h) (Or.inl ⟨by rfl, ?_⟩) ?_ ?_
 rotate_left
 ·intro w'
  go_simp
  with_reducible rfl
 rotate_left
 ·simp only [Act.put, List.setIfInBounds_toArray, List.set_cons_zero, List.set_cons_succ]
  rfl
 refine pure_ (i := 10) (N := (some 32)) (v := ?_) (a' := ?_) #[true, true, true, true, true, true, true, true, true, true, true, false, false, false, false, false, false] rfl rfl (by kernel_rfl) (fun _ _ _ h => h) (Or.inl ⟨by rfl, ?_⟩) ?_ ?_
 rotate_left
 ·intro w'
  go_simp
  with_reducible rfl
 rotate_left
 ·simp only [Act.put, List.setIfInBounds_toArray, List.set_cons_zero, List.set_cons_succ]
  rfl
 refine take_ (i := 11) (N := (some 33)) (v := ?_) (a' := ?_) #[true, true, true, true, true, true, true, true, true, true, true, true, false, false, false, false, false] rfl rfl (by kernel_rfl) (fun _ _ _ h => h) (Or.inl ⟨by rfl, ?_⟩) hS0 ?_ ?_
 rotate_left
 ·intro w' s0
  have hx0 := (s0.cell (World.block_lt_of_cell? _ _ z0)).trans z0
  go_simp
  with_reducible rfl
 rotate_left
 ·simp only [Act.put, List.setIfInBounds_toArray, List.set_cons_zero, List.set_cons_succ]
  rfl
 refine pure_ (i := 12) (N := (some 34)) (v := ?_) (a' := ?_) #[true, true, true, true, true, true, true, true, true, true, true, true, true, false, false, false, false] rfl rfl (by kernel_rfl) (fun _ _ _ h => h) (Or.inl ⟨by rfl, ?_⟩) ?_ ?_
 rotate_left
 ·intro w'
  go_simp
  with_reducible rfl
 rotate_left
 ·simp only [Act.put, List.setIfInBounds_toArray, List.set_cons_zero, List.set_cons_succ]
  rfl
 clear hS0
 refine one_ (i := 13) (N := (some 35)) #[true, true, true, true, true, true, true, true, true, true, true, true, true, true, false, false, false] rfl rfl (by kernel_rfl) (by decide) (fun K hK => ?_)
 obtain ⟨wA, ewA⟩ : ∃ W, W = w.drew.alloc (.cells #[.slice Ay y.length cy, .slice Ax x.length cx] 31 (0, 0)) := ⟨_, rfl⟩
 obtain ⟨ga, hga⟩ : ∃ ga, ga = w.drew.heap.size := ⟨_, rfl⟩
 have HBA : Aside0 (Below w.heap.size w wA) := ⟨by rw [ewA]; exact below_alloc HBD.out _⟩
 have HXA : Aside0 (wA.heap[ga]? = some (.cells #[.slice Ay y.length cy, .slice Ax x.length cx] 31 (0, 0))) := ⟨by rw [ewA, hga]; exact (MapKept.heap_alloc w.drew _).1⟩
 refine value_ (w1 := wA) (v := .slice (some ⟨ga, 0, none⟩) 2 2) (by rfl) rfl (by rw [ewA, hga]; go_simp) ?_
 clear ewA hga
 change K (Act.put _ (some 35) _) _
 refine hK.out _ _ HBA.out (fun hS0 => ?_)
 clear hK
 refine norm_ (a' := ?_) ?_ ?_
 rotate_left
 ·simp only [Act.put, List.setIfInBounds_toArray, List.set_cons_zero, List.set_cons_succ]
  rfl
 clear hS0
 refine one_ (i := 14) (N := (some 36)) #[true, true, true, true, true, true, true, true, true, true, true, true, true, true, true, false, false] rfl rfl (by kernel_rfl) (by decide) (fun K hK => ?_)
 refine goes_ Try.func47 (by kernel_rfl) rfl #[.slice (some ⟨ga, 0, none⟩) 2 2] (by rfl) rfl rfl (by go_simp; done) ?_
 refine (concat_c (two_slk HXA.out (SLk.below HY.out HBA.out) (SLk.below HX.out HBA.out)) (by simp) (by simp only [List.flatten_cons, List.flatten_nil, List.append_nil, List.length_append]; have := HM.out; omega)).mono ?_
 rintro e w2 ⟨u, rfl, hR, hb2⟩
 rw [show [y, x].flatten = y ++ x by simp] at hR
 obtain ⟨AU, cu, eu⟩ := Kd.R_slice hR
 subst eu
 refine ⟨_, rfl, ?_⟩
 have HU : Aside0 (SLD w2 (fun q => w.heap.size ≤ q) (.slice AU (y ++ x).length cu) (y ++ x)) := ⟨SLD.of_R (Kd.R_mono (Kd.R_bound hR) (fun q hq => Nat.le_trans HBA.out.size hq.2.1))⟩
 have HB2 : Aside0 (Below w.heap.size w w2) := ⟨below_step HBA.out hb2⟩
 clear hR hb2
 change K (Act.put _ (some 36) _) _
 refine hK.out _ _ HB2.out (fun hS0 => ?_)
 clear hK
 refine norm_ (a' := ?_) ?_ ?_
 rotate_left
 ·simp only [Act.put, List.setIfInBounds_toArray, List.set_cons_zero, List.set_cons_succ]
  rfl
 obtain ⟨hd2, y0, y1, -⟩ := (HP.out.below HB2.out).h2.cell k HK.out
 refine pure_ (i := 15) (N := (some 37)) (v := ?_) (a' := ?_) #[true, true, true, true, true, true, true, true, true, true, true, true, true, true, true, true, false] rfl rfl (by kernel_rfl) (fun _ _ _ h => h) (Or.inl ⟨by rfl, ?_⟩) ?_ ?_
 rotate_left
 ·intro w'
  go_simp
  with_reducible rfl
 rotate_left
 ·simp only [Act.put, List.setIfInBounds_toArray, List.set_cons_zero, List.set_cons_succ]
  rfl
 clear hS0
 refine last_ (i := 16) (N := none) #[true, true, true, true, true, true, true, true, true, true, true, true, true, true, true, true, true] rfl rfl (by kernel_rfl) (by decide) (fun K hK => ?_)
 refine skip_ (w1 := w2.setCell ⟨g, k, none⟩ (.slice AU (y ++ x).length cu)) (by rfl) rfl (by go_simp) ?_
 refine hK.out _ _ ?_
 clear hK
 refine done_ (by kernel_rfl) ?_
 go_wp2
 go_ret
 obtain ⟨q1, _, q3⟩ := HP.out.put HB2.out k HK.out HU.out
 rw [List.length_append] at q1 q3
 exact ⟨rfl, q1, q3⟩
set_option maxRecDepth 100000 in
set_option maxHeartbeats 4000000 in
theorem text_c {w : World} {D : Nat → Prop} {b : Nat} {L : List (List Int)} {J : List S33} (h : CellsAt 51 w D b L J) (hl8 : L.length ≤ 100000000) (hf : L.flatten.length ≤ 10000000) :
 Calls Try.prog 17 #[ptr b] w fun e w' => ∃ u, e = .returned u ∧ Kd.R (Kd.int .i64) 3 w' w.heap.size (fun _ => True) u L.flatten ∧ Below w.heap.size w w' := by
 obtain ⟨Dr, Dt, A, c, vt, hp⟩ := h.open_
 have c0 := (blk_cell hp.h1 0).trans rfl
 have HR := Aside0.mk (hp.h2.reads 3)
 have HL := Aside0.mk hl8
 have HF := Aside0.mk hf
 clear h hp hl8 hf
 go_enter Try.func17, Try.ntmps17
 go_wp2_with (go_at_call 47; refine (concat_c HR.out HL.out HF.out).mono ?_; rintro e w1 ⟨u, rfl, hu, hb⟩; have HU := Aside0.mk hu; have HB := Aside0.mk hb; clear hu hb)
 go_ret
 exact ⟨_, rfl, HU.out, HB.out⟩
set_option maxRecDepth 100000 in
set_option maxHeartbeats 4000000 in
theorem at_bad {w : World} {D : Nat → Prop} {b : Nat} {L : List (List Int)} {J : List S33} (h : CellsAt 51 w D b L J) (at_ : Int) (hat : ¬ (0 ≤ at_ ∧ at_ < (L.length : Int))) : Calls Try.prog 19 #[ptr b, .int .i64 at_] w fun e w' => e = .returned (.slice none 0 0) ∧ Below w.heap.size w w' := by
 obtain ⟨Dr, Dt, A, c, vt, hp⟩ := h.open_
 have c0 := (blk_cell hp.h1 0).trans rfl
 have HD : Aside0 (decide (0 ≤ at_ ∧ at_ < (L.length : Int)) = false) := ⟨decide_eq_false hat⟩
 clear h hp hat
 go_enter Try.func19, Try.ntmps19
 go_wp2_with (go_at_call 48; refine (has_c A L.length c at_).mono ?_; rintro e w1 ⟨rfl, hb⟩; rw [HD.out]; have HB := Aside0.mk hb; clear hb)
 go_ret
 exact ⟨rfl, HB.out⟩
set_option maxRecDepth 100000 in
set_option maxHeartbeats 4000000 in
theorem at_c {w : World} {D : Nat → Prop} {b : Nat} {L : List (List Int)} {J : List S33} (h : CellsAt 51 w D b L J) (k : Nat) (hk : k < L.length) (hm : L[k].length ≤ 1000000) :
 Calls Try.prog 19 #[ptr b, .int .i64 k] w fun e w' => ∃ u, e = .returned u ∧ Kd.R (Kd.int .i64) 3 w' w.heap.size (fun _ => True) u L[k] ∧ Below w.heap.size w w' := by
 obtain ⟨y, hy⟩ : ∃ y, y = L[k] := ⟨_, rfl⟩
 rw [← hy] at hm ⊢
 obtain ⟨Dr, Dt, A, c, vt, hp⟩ := h.open_
 obtain ⟨g, cap, cells, e, hg, hlt, hblk⟩ := hp.h2.form (by omega)
 injection e with e1 e2 e3
 subst e1
 subst e3
 obtain ⟨hd, z0, z1, z2⟩ := hp.h2.cell k hk
 rw [← hy] at z2
 obtain ⟨Ay, cy, ey, _, _⟩ := z2.1
 rw [ey] at z0 z2
 have c0 := (blk_cell hp.h1 0).trans rfl
 have HD : Aside0 (decide (0 ≤ (k : Int) ∧ (k : Int) < (L.length : Int)) = true) := ⟨decide_eq_true (by omega)⟩
 have HY := Aside0.mk z2.1
 have HM := Aside0.mk hm
 have hkI : (k : Int) < (L.length : Int) := by omega
 have hk0 : 0 ≤ (k : Int) := by omega
 have etk : (k : Int).toNat = k := Int.toNat_natCast _
 have HC0 := Aside0.mk c0
 have HZ0 := Aside0.mk z0
 clear h hp hg hblk hlt hk hy z1 z2 ey hm z0
 go_enter Try.func19, Try.ntmps19
 go_wp2_with (first | (go_at_call 48; refine (has_c _ L.length c k).mono ?_; rintro e w1 ⟨rfl, hb⟩; rw [HD.out]; have HB := Aside0.mk hb; have c1 := (hb.cell (World.block_lt_of_cell? _ _ HC0.out)).trans HC0.out; have z1 := (hb.cell (World.block_lt_of_cell? _ _ HZ0.out)).trans HZ0.out; have HY1 := Aside0.mk (SLk.below HY.out hb); clear hb) | (go_at_call 42; refine (clone_c HY1.out HM.out).mono ?_; rintro e w2 ⟨u, rfl, hu, hb⟩; have HU := Aside0.mk (Kd.R_lower hu HB.out.size); have HB2 : Aside0 (Below w.heap.size w w2) := ⟨below_step HB.out hb⟩; clear hu hb))
 go_ret
 exact ⟨_, rfl, HU.out, HB2.out⟩
end Go.Proofs.Ytohhobcipfmkbaa.Cel
end
section
namespace Go.Proofs.Ytohhobcipfmkbaa.UGroups
open Go.Proofs.Ytohhobcipfmkbaa.PClusterFinest
def OkS (N : Nat) (s : S33) : Prop := 0 ≤ s.f0 ∧ s.f0 < s.f1 ∧ s.f1 ≤ (N : Int)
instance (N : Nat) (s : S33) : Decidable (OkS N s) := by unfold OkS; infer_instance
def acrossB (N : Nat) (J : List S33) (t : Nat) : Bool := J.any fun s => decide (OkS N s) && (decide (s.f0 < (t : Int)) && decide ((t : Int) < s.f1))
theorem across_iff {N : Nat} {J : List S33} {t : Nat} : acrossB N J t = true ↔ ∃ s ∈ J, OkS N s ∧ s.f0 < (t : Int) ∧ (t : Int) < s.f1 := by
 unfold acrossB
 rw [List.any_eq_true]
 simp only [Bool.and_eq_true, decide_eq_true_eq]
def stepG (N : Nat) (J : List S33) (t : Nat) (q : List S33 × Nat) : List S33 × Nat := if t = N ∨ acrossB N J t = false then (q.1 ++ [⟨(q.2 : Int), (t : Int)⟩], t) else q
def grpTo (N : Nat) (J : List S33) : Nat → List S33 × Nat
 | 0 => ([], 0)
 | t + 1 => stepG N J (t + 1) (grpTo N J t)
def groups (N : Nat) (J : List S33) : List S33 := (grpTo N J N).1
theorem grp_len (N : Nat) (J : List S33) (t : Nat) : (grpTo N J t).1.length ≤ t := by
 induction t with
 | zero => exact Nat.le_refl _
 | succ t ih =>
  unfold grpTo stepG
  split
  ·simp; exact ih
  ·omega
structure IsH (N : Nat) (J : List S33) (t : Nat) (h : Int) : Prop where
 ge : (t : Int) ≤ h
 up : ∀ s ∈ J, OkS N s → s.f0 < (t : Int) → s.f1 ≤ h
 is : h = (t : Int) ∨ ∃ s ∈ J, OkS N s ∧ s.f0 < (t : Int) ∧ s.f1 = h
structure IsR (N : Nat) (J : List S33) (i : Nat) (r : Int) : Prop where
 ge : 0 ≤ r
 up : ∀ s ∈ J, OkS N s → s.f0 = (i : Int) → s.f1 ≤ r
 is : r = 0 ∨ ∃ s ∈ J, OkS N s ∧ s.f0 = (i : Int) ∧ s.f1 = r
theorem isH_end {N : Nat} {J : List S33} {t : Nat} {h : Int} (hh : IsH N J t h) : h = (t : Int) ↔ acrossB N J t = false := by
 constructor
 ·intro e
  cases hc : acrossB N J t with
  | false => rfl
  | true =>
   obtain ⟨s, hs, ho, h1, h2⟩ := across_iff.1 hc
   have := hh.up s hs ho h1
   omega
 ·intro hc
  rcases hh.is with e | ⟨s, hs, ho, h1, h2⟩
  ·exact e
  ·have hge := hh.ge
   by_cases hlt : (t : Int) < s.f1
   ·have := across_iff.2 ⟨s, hs, ho, h1, hlt⟩
    rw [hc] at this; cases this
   ·omega
theorem isH_step {N : Nat} {J : List S33} {t : Nat} {h r : Int} (hh : IsH N J t h) (hr : IsR N J t r) : IsH N J (t + 1) (max (max h ((t : Int) + 1)) r) := by
 refine ⟨by omega, fun s hs ho h1 => ?_, ?_⟩
 ·by_cases e : s.f0 = (t : Int)
  ·have := hr.up s hs ho e; omega
  ·have := hh.up s hs ho (by omega); omega
 ·by_cases c1 : r ≤ max h ((t : Int) + 1)
  ·by_cases c2 : h ≤ (t : Int) + 1
   ·exact .inl (by omega)
   ·rcases hh.is with e | ⟨s, hs, ho, h1, h2⟩
    ·omega
    ·exact .inr ⟨s, hs, ho, by omega, by omega⟩
  ·rcases hr.is with e | ⟨s, hs, ho, h1, h2⟩
   ·have := hh.ge; omega
   ·exact .inr ⟨s, hs, ho, by omega, by omega⟩
def Reach (N : Nat) (J : List S33) (l : List Int) : Prop := l.length = N ∧ ∀ i, i < N → IsR N J i (l.getD i 0)
theorem reach_zero (N : Nat) : Reach N [] (List.replicate N 0) := ⟨by simp, fun i hi => ⟨by simp [List.getD_eq_getElem?_getD, List.getElem?_replicate, hi], (fun s hs => by cases hs), .inl (by simp [List.getD_eq_getElem?_getD, List.getElem?_replicate, hi])⟩⟩
theorem reach_no {N : Nat} {J : List S33} {l : List Int} {s : S33} (h : Reach N J l) (hs : ¬ OkS N s) : Reach N (J ++ [s]) l := by
 refine ⟨h.1, fun i hi => ?_⟩
 have := h.2 i hi
 refine ⟨this.ge, fun q hq ho e => ?_, ?_⟩
 ·rcases List.mem_append.1 hq with hq | hq
  ·exact this.up q hq ho e
  ·rw [List.mem_singleton] at hq; subst hq; exact absurd ho hs
 ·exact this.is.imp_right fun ⟨q, hq, hh⟩ => ⟨q, List.mem_append_left _ hq, hh⟩
theorem reach_yes {N : Nat} {J : List S33} {l : List Int} {s : S33} (h : Reach N J l) (hs : OkS N s) : Reach N (J ++ [s]) (l.set s.f0.toNat (max (l.getD s.f0.toNat 0) s.f1)) := by
 have h0 := hs.1; have h1 := hs.2.1; have h2 := hs.2.2
 refine ⟨by rw [List.length_set]; exact h.1, fun i hi => ?_⟩
 have hi' := h.2 i hi
 by_cases e : i = s.f0.toNat
 ·have eg : (l.set s.f0.toNat (max (l.getD s.f0.toNat 0) s.f1)).getD i 0 = max (l.getD i 0) s.f1 := by
   rw [← e, List.getD_eq_getElem?_getD, List.getElem?_set_self (by rw [h.1]; exact hi)]; rfl
  rw [eg]
  refine ⟨by have := hi'.ge; omega, fun q hq ho eq => ?_, ?_⟩
  ·rcases List.mem_append.1 hq with hq | hq
   ·have := hi'.up q hq ho eq; omega
   ·rw [List.mem_singleton] at hq; subst hq; omega
  ·by_cases hc : l.getD i 0 ≤ s.f1
   ·exact .inr ⟨s, List.mem_append_right _ (List.mem_singleton.2 rfl), hs, by omega, by omega⟩
   ·rcases hi'.is with e0 | ⟨q, hq, ho, e1, e2⟩
    ·omega
    ·exact .inr ⟨q, List.mem_append_left _ hq, ho, e1, by omega⟩
 ·have eg : (l.set s.f0.toNat (max (l.getD s.f0.toNat 0) s.f1)).getD i 0 = l.getD i 0 := by
   rw [List.getD_eq_getElem?_getD, List.getElem?_set_ne (fun h => e h.symm), ← List.getD_eq_getElem?_getD]
  rw [eg]
  refine ⟨hi'.ge, fun q hq ho eq => ?_, hi'.is.imp_right fun ⟨q, hq, hh⟩ => ⟨q, List.mem_append_left _ hq, hh⟩⟩
  rcases List.mem_append.1 hq with hq | hq
  ·exact hi'.up q hq ho eq
  ·rw [List.mem_singleton] at hq; subst hq; omega
theorem isH_one {N : Nat} {J : List S33} {r : Int} (hr : IsR N J 0 r) : IsH N J 1 (max 1 r) := by
 refine ⟨by omega, fun s hs ho h1 => ?_, ?_⟩
 ·have := ho.1
  have := hr.up s hs ho (by omega); omega
 ·by_cases c : r ≤ 1
  ·exact .inl (by omega)
  ·rcases hr.is with e | ⟨s, hs, ho, h1, h2⟩
   ·omega
   ·exact .inr ⟨s, hs, ho, by omega, by omega⟩
theorem isH_last {N : Nat} {J : List S33} {h : Int} (hh : IsH N J N h) : h = (N : Int) := by
 rcases hh.is with e | ⟨s, hs, ho, h1, h2⟩
 ·exact e
 ·have := ho.2.2; have := hh.ge; omega
theorem grp_lo (N : Nat) (J : List S33) (t : Nat) (ht : t ≤ N) : (grpTo N J t).2 ≤ t := by
 induction t with
 | zero => exact Nat.le_refl _
 | succ t ih =>
  unfold grpTo stepG
  split
  ·exact Nat.le_refl _
  ·have := ih (by omega); omega
end Go.Proofs.Ytohhobcipfmkbaa.UGroups
end
section
namespace Go.Proofs.Ytohhobcipfmkbaa.CFin
open Go.RowKit Go.Proofs.YtohhobcipfmkbaaW.PrintWords Go.Proofs.YtohhobcipfmkbaaW.PrintMore Go.Proofs.YtohhobcipfmkbaaW.PrintLast Go.Proofs.Ytohhobcipfmkbaa.U Go.Proofs.Ytohhobcipfmkbaa.PClusterFinest Go.Proofs.Ytohhobcipfmkbaa.UFinest Go.Proofs.Ytohhobcipfmkbaa.UFinEv
attribute [local go_sem] max2_int min2_int max_two min_two
set_option maxRecDepth 100000 in
set_option maxHeartbeats 1000000 in
theorem find_c {w : World} {base g N cap : Nat} {p : List Int} {r : Lab} (h : LI w base g N cap p) (hp : PF N r p) (hN : N ≤ 1000000) (i : Nat) (hi : i < N) :
 Calls Try.prog 86 #[.slice (some ⟨g, 0, none⟩) N cap, .int .i64 i] w fun e w' => ∃ p', e = .returned (.int .i64 (r i : Nat)) ∧ LI w' base g N cap p' ∧ PF N r p' ∧ w.grownBy w' (some g) := by
 have HV := Aside0.mk h
 have HP := Aside0.mk hp
 clear h hp
 go_enter Try.func86, Try.ntmps86
 go_wp2_with fail
 go_loopw [1] (fun v wr => ∃ (j : Nat) (p : List Int), v = .int .i64 j ∧ j < N ∧ Aside0 (r j = r i) ∧ Aside0 (LI wr base g N cap p) ∧ Aside0 (PF N r p) ∧ Aside0 (w.grownBy wr (some g))) (fun v _ => (intOf v).toNat)
 case atStart => exact ⟨i, p, rfl, hi, ⟨rfl⟩, HV, HP, ⟨World.grownBy.refl _ _⟩⟩
 case round =>
  clear HV HP
  obtain ⟨j, p, rfl, hj, HRR, HV, HP, HG⟩ := hrel
  have hjN : (j : Int) < (N : Int) := by omega
  by_cases hr : p.getD j 0 = (j : Int)
  ·obtain ⟨hc, hf⟩ := HV.out.cell j hj
   rw [hr] at hc
   have HRT := Aside0.mk (HP.out.root hj hr)
   clear hr
   go_wp2_with fail
   go_ret
   have hri : r i = j := HRR.out.symm.trans HRT.out
   exact ⟨p, by rw [hri]; rfl, HV.out, HP.out, HG.out⟩
  ·obtain ⟨q, hq, hlt, hqr⟩ := HP.out.up hj hr
   obtain ⟨q2, hq2, hle2, hqr2, _⟩ := HP.out q (by omega)
   obtain ⟨hc, hf⟩ := HV.out.cell j hj
   obtain ⟨hc2, hf2⟩ := HV.out.cell q (by omega)
   rw [hq] at hc
   rw [hq2] at hc2
   have HH := Aside0.mk (HP.out.half HV.out.len.symm hj hq hq2)
   have HP2 := Aside0.mk (HV.out.put j (q2 : Int))
   have HR2 := Aside0.mk (hqr2.trans hqr)
   have hne : ¬ (q : Int) = (j : Int) := by omega
   have hqN : (q : Int) < (N : Int) := by omega
   clear hr hq hq2 hqr hqr2 HV HP
   go_wp2_with fail
   exact ⟨⟨q2, _, rfl, by omega, ⟨HR2.out.trans HRR.out⟩, HP2, HH, ⟨World.grownBy.trans HG.out (grown_set _ _ _ _)⟩⟩, by simp [intOf]; omega⟩
theorem LI.grown {w w' : World} {base g n cap g' : Nat} {xs : List Int} (h : LI w base g n cap xs) (hg : w.grownBy w' (some g')) (hne : g ≠ g') : LI w' base g n cap xs :=
 Kd.R_grown h hg (fun k hk e => hne (by rw [← hk]; exact Option.some.inj e))
set_option maxRecDepth 100000 in
set_option maxHeartbeats 1000000 in
theorem join_c {w : World} {base g N cap : Nat} {p : List Int} {r : Lab} (h : LI w base g N cap p) (hp : PF N r p) (ho : LabOk N r) (hN : N ≤ 1000000) (a b : Nat) (ha : a < N) (hb : b < N) :
 Calls Try.prog 84 #[.slice (some ⟨g, 0, none⟩) N cap, .int .i64 a, .int .i64 b] w fun e w' => ∃ p', e = .returned (.bool (two r a b)) ∧ LI w' base g N cap p' ∧ PF N (merge r a b) p' ∧ w.grownBy w' (some g) := by
 have HV := Aside0.mk h
 have HP := Aside0.mk hp
 clear h hp
 have h1 := ho.le a ha
 have h2 := ho.le b hb
 have HO := Aside0.mk ho; clear ho
 go_enter Try.func84, Try.ntmps84
 by_cases hab : r a = r b
 ·have ht := Aside0.mk (two_false hab)
  have hm := Aside0.mk (merge_same r a b hab)
  have HAB := Aside0.mk hab; clear hab
  go_wp2_with (first | (go_at_call 86; refine (find_c HV.out HP.out hN a ha).mono ?_; rintro e w1 ⟨p1, rfl, a1, a2, a3⟩; have HV1 := Aside0.mk a1; have HP1 := Aside0.mk a2; have HG1 := Aside0.mk a3; clear a1 a2 a3 HV HP) | (go_at_call 86; refine (find_c HV1.out HP1.out hN b hb).mono ?_; rintro e w2 ⟨p2, rfl, a1, a2, a3⟩; rw [← HAB.out]; have HV2 := Aside0.mk a1; have HP2 := Aside0.mk a2; have HG2 : Aside0 (w.grownBy w2 (some g)) := ⟨World.grownBy.trans HG1.out a3⟩; clear a1 a2 a3 HV1 HP1))
  go_ret
  exact ⟨p2, by rw [ht.out]; rfl, HV2.out, by rw [hm.out]; exact HP2.out, HG2.out⟩
 ·have ht := Aside0.mk (two_true hab)
  have HAB := Aside0.mk hab
  obtain ⟨x, hx⟩ : ∃ x, x = r a := ⟨_, rfl⟩
  obtain ⟨y, hy⟩ : ∃ y, y = r b := ⟨_, rfl⟩
  have hxy : ¬ (x : Int) = (y : Int) := by omega
  have HX := Aside0.mk hx
  have HY := Aside0.mk hy
  have hxN : x < N := by omega
  have hyN : y < N := by omega
  clear hab hx hy
  go_upto_region 4 with (first | (go_at_call 86; refine (find_c HV.out HP.out hN a ha).mono ?_; rintro e w1 ⟨p1, rfl, a1, a2, a3⟩; rw [← HX.out]; have HV1 := Aside0.mk a1; have HP1 := Aside0.mk a2; have HG1 := Aside0.mk a3; clear a1 a2 a3 HV HP) | (go_at_call 86; refine (find_c HV1.out HP1.out hN b hb).mono ?_; rintro e w2 ⟨p2, rfl, a1, a2, a3⟩; rw [← HY.out]; have HV2 := Aside0.mk a1; have HP2 := Aside0.mk a2; have HG2 : Aside0 (w.grownBy w2 (some g)) := ⟨World.grownBy.trans HG1.out a3⟩; clear a1 a2 a3 HV1 HP1))
  by_cases hlt : (x : Int) < (y : Int)
  ·have hc0 := HV2.out.cell y hyN
   obtain ⟨hc, hf⟩ := hc0
   have HP3 := Aside0.mk (HV2.out.put y (x : Int))
   have HQ3 : Aside0 (PF N (merge r a b) (p2.set y (x : Int))) := ⟨by
    have h := HP2.out.join HO.out HV2.out.len.symm a b ha hb HAB.out
    rw [← HX.out, ← HY.out, show max x y = y by omega, show min x y = x by omega] at h
    exact h⟩
   have hI : (y : Int) < (N : Int) := by omega
   have hJ : ¬ (y : Int) < (x : Int) := by omega
   clear HV2 HP2
   go_wp2_with fail
   go_ret
   exact ⟨by rw [ht.out]; rfl, _, HP3.out, HQ3.out, World.grownBy.trans HG2.out (grown_set _ _ _ _)⟩
  ·have hlt2 : (y : Int) < (x : Int) := by omega
   have hc0 := HV2.out.cell x hxN
   obtain ⟨hc, hf⟩ := hc0
   have HP3 := Aside0.mk (HV2.out.put x (y : Int))
   have HQ3 : Aside0 (PF N (merge r a b) (p2.set x (y : Int))) := ⟨by
    have h := HP2.out.join HO.out HV2.out.len.symm a b ha hb HAB.out
    rw [← HX.out, ← HY.out, show max x y = x by omega, show min x y = y by omega] at h
    exact h⟩
   have hI : (x : Int) < (N : Int) := by omega
   have hJ : ¬ (x : Int) < (y : Int) := by omega
   clear HV2 HP2
   go_wp2_with fail
   go_ret
   exact ⟨by rw [ht.out]; rfl, _, HP3.out, HQ3.out, World.grownBy.trans HG2.out (grown_set _ _ _ _)⟩
end Go.Proofs.Ytohhobcipfmkbaa.CFin
namespace Go.Proofs.Ytohhobcipfmkbaa.CFin
open Go.RowKit Go.Proofs.YtohhobcipfmkbaaW.PrintWords Go.Proofs.YtohhobcipfmkbaaW.PrintMore Go.Proofs.YtohhobcipfmkbaaW.PrintLast Go.Proofs.Ytohhobcipfmkbaa.U Go.Proofs.Ytohhobcipfmkbaa.PClusterFinest Go.Proofs.Ytohhobcipfmkbaa.UFinest Go.Proofs.Ytohhobcipfmkbaa.UFinEv
theorem labOk_allF {N : Nat} {r : Lab} (h : LabOk N r) (base k : Nat) (hb : base + k < N) : LabOk N (allF r base k) := by
 induction k with
 | zero => exact h
 | succ k ih => exact (ih (by omega)).merge _ _ (by omega) (by omega)
def WV (w : World) (B g n m N cap : Nat) : Prop := w.heap[B]? = some (.cells #[.slice (some ⟨g, 0, none⟩) N cap, .int .i64 n, .int .i64 m] 87 (0, 0))
theorem WV.below {w w' : World} {B g n m N cap : Nat} (h : WV w B g n m N cap) (hb : Below w.heap.size w w') : WV w' B g n m N cap := (hb.block _ (blk_lt h)).trans h
theorem WV.grown {w w' : World} {B g g' n m N cap : Nat} (h : WV w B g n m N cap) (hg : w.grownBy w' (some g')) (hne : B ≠ g') : WV w' B g n m N cap := (hg.block _ (blk_lt h) (fun e => hne (Option.some.inj e))).trans h
theorem WV.c0 {w : World} {B g n m N cap : Nat} (h : WV w B g n m N cap) : w.cell? ⟨B, 0, none⟩ = some (.slice (some ⟨g, 0, none⟩) N cap) := (blk_cell h 0).trans rfl
theorem WV.c1 {w : World} {B g n m N cap : Nat} (h : WV w B g n m N cap) : w.cell? ⟨B, 1, none⟩ = some (.int .i64 n) := (blk_cell h 1).trans rfl
theorem WV.c2 {w : World} {B g n m N cap : Nat} (h : WV w B g n m N cap) : w.cell? ⟨B, 2, none⟩ = some (.int .i64 m) := (blk_cell h 2).trans rfl
theorem below_grownBy {w w' : World} (h : Below w.heap.size w w') (row : Option Nat) : w.grownBy w' row := ⟨h.os, h.tape, h.output, h.size, fun k hk _ => h.block k hk⟩
set_option maxRecDepth 100000 in
set_option maxHeartbeats 1000000 in
theorem all_c {w : World} {base B g n m N cap : Nat} {p : List Int} {r : Lab} (hW : WV w B g n m N cap) (h : LI w base g N cap p) (hne : B ≠ g) (hp : PF N r p) (ho : LabOk N r) (hN : N ≤ 1000000) (lo hi by_ : Nat) (hlh : lo < hi) (hh : by_ + hi ≤ N) :
 Calls Try.prog 83 #[.pointer (some ⟨B, 0, none⟩), .agg #[.int .i64 lo, .int .i64 hi], .int .i64 by_] w fun e w' => e = .returned (.tuple #[]) ∧ ∃ p', LI w' base g N cap p' ∧ PF N (allF r (by_ + lo) (hi - lo - 1)) p' ∧ w.grownBy w' (some g) := by
 have HW := Aside0.mk hW
 have HV := Aside0.mk h
 have HP := Aside0.mk hp
 have HO := Aside0.mk ho
 have hgw := h.ltw
 have e1 : IntKind.i64.wrap ((lo : Int) + 1) = ((lo + 1 : Nat) : Int) := by rw [IntWalk.i64_in _ (by omega)]; omega
 clear hW h hp ho
 go_enter Try.func83, Try.ntmps83
 go_wp2_with (first | ((with_reducible refine gate_dst (N := 4) rfl ?_); refine box_event ?hg (N := 4) ?hd (cs := #[.int .i64 lo, .int .i64 hi]) (t := 33) ?hr ?_; (case hd => rfl); (case hg => rfl); (case hr => first | (go_simp; done) | (go_simp; rfl)); intro gb hg w5 hbox hb; have HW5 := Aside0.mk (HW.out.below hb); have HV5 := Aside0.mk (HV.out.below hb); have HX := Aside0.mk hbox; have HGB := Aside0.mk hg; have HG5 := Aside0.mk (below_grownBy hb (some g)); have b0 : w5.cell? ⟨gb, 0, none⟩ = some (.int .i64 lo) := (blk_cell hbox 0).trans rfl; have b1 : w5.cell? ⟨gb, 1, none⟩ = some (.int .i64 hi) := (blk_cell hbox 1).trans rfl; clear hg hbox hb HW HV))
 clear b0 b1
 have HGN : Aside0 (gb ≠ g) := ⟨by have := HGB.out; omega⟩
 go_loopw [6] (fun v wr => ∃ (j : Nat) (p : List Int), v = .int .i64 j ∧ lo + 1 ≤ j ∧ j ≤ hi ∧ Aside0 (WV wr B g n m N cap) ∧ Aside0 (LI wr base g N cap p) ∧ Aside0 (PF N (allF r (by_ + lo) (j - lo - 1)) p) ∧ Aside0 (wr.heap[gb]? = some (.cells #[.int .i64 lo, .int .i64 hi] 33 (0, 0))) ∧ Aside0 (w.grownBy wr (some g))) (fun v _ => hi - (intOf v).toNat)
 case atStart => exact ⟨lo + 1, p, rfl, Nat.le_refl _, hlh, HW5, HV5, ⟨by rw [show lo + 1 - lo - 1 = 0 by omega]; exact HP.out⟩, HX, HG5⟩
 case round =>
  clear HW5 HV5 HP HX HG5
  obtain ⟨j, p, rfl, hj1, hj2, HW, HV, HP, HX, HG⟩ := hrel
  have b0 := (blk_cell HX.out 0).trans rfl
  have b1 := (blk_cell HX.out 1).trans rfl
  have d0 := HW.out.c0
  by_cases hlt : j < hi
  ·have hjI : (j : Int) < (hi : Int) := by omega
   obtain ⟨a, ha⟩ : ∃ a, a = by_ + lo := ⟨_, rfl⟩
   obtain ⟨b, hb⟩ : ∃ b, b = by_ + j := ⟨_, rfl⟩
   have e2 : IntKind.i64.wrap ((by_ : Int) + (lo : Int)) = (a : Int) := by rw [IntWalk.i64_in _ (by omega)]; omega
   have e3 : IntKind.i64.wrap ((by_ : Int) + (j : Int)) = (b : Int) := by rw [IntWalk.i64_in _ (by omega)]; omega
   have haN : a < N := by omega
   have hbN : b < N := by omega
   have HA := Aside0.mk ha
   have HB := Aside0.mk hb
   clear ha hb
   go_wp2_with fail
   go_still_tail 11, (by kernel_rfl)
   repeat still_step
   have HWd : Aside0 (WV wr.drew B g n m N cap) := ⟨HW.out⟩
   have HVd : Aside0 (LI wr.drew base g N cap p) := ⟨Kd.R_drew HV.out⟩
   go_wp2_with (go_at_call 84; refine (join_c HVd.out HP.out (labOk_allF HO.out _ _ (by omega)) hN a b haN hbN).mono ?_; rintro e w6 ⟨p1, rfl, a1, a2, a3⟩; have HV6 := Aside0.mk a1; have HP6 : Aside0 (PF N (allF r (by_ + lo) (j + 1 - lo - 1)) p1) := ⟨by rw [HA.out, HB.out] at a2; rw [show j + 1 - lo - 1 = (j - lo - 1) + 1 by omega]; have e : by_ + lo + (j - lo - 1) + 1 = by_ + j := (by omega); show PF N (merge (allF r (by_ + lo) (j - lo - 1)) (by_ + lo) (by_ + lo + (j - lo - 1) + 1)) p1; rw [e]; exact a2⟩; have HG6 := Aside0.mk a3; clear a1 a2 a3)
   have HGd : Aside0 (wr.grownBy w6 (some g)) := ⟨World.grownBy.trans (below_grownBy (below_drew (Below.refl _ _)) _) HG6.out⟩
   exact ⟨⟨j + 1, p1, by go_num, by omega, by omega, ⟨HW.out.grown HGd.out hne⟩, HV6, HP6, ⟨(HGd.out.block _ (blk_lt HX.out) (fun e => HGN.out (Option.some.inj e))).trans HX.out⟩, ⟨World.grownBy.trans HG.out HGd.out⟩⟩, by simp [intOf]; omega⟩
  ·have ej : j = hi := by omega
   subst ej
   go_wp2_with fail
   go_end0
   exact ⟨rfl, p, HV.out, HP.out, HG.out⟩
end Go.Proofs.Ytohhobcipfmkbaa.CFin
namespace Go.Proofs.Ytohhobcipfmkbaa.CFin
open Go.RowKit Go.Proofs.YtohhobcipfmkbaaW.PrintWords Go.Proofs.YtohhobcipfmkbaaW.PrintMore Go.Proofs.YtohhobcipfmkbaaW.PrintLast Go.Proofs.Ytohhobcipfmkbaa.U Go.Proofs.Ytohhobcipfmkbaa.PClusterFinest Go.Proofs.Ytohhobcipfmkbaa.UFinest Go.Proofs.Ytohhobcipfmkbaa.UFinEv
set_option maxRecDepth 100000 in
set_option maxHeartbeats 1000000 in
theorem link_c {w : World} {base B g n m N cap : Nat} {p : List Int} {r : Lab} (hW : WV w B g n m N cap) (h : LI w base g N cap p) (hne : B ≠ g) (hp : PF N r p) (ho : LabOk N r) (hN : N ≤ 1000000) (x : Lk) (hab : x.a < x.b) (hbn : x.b ≤ n) (hcd : x.c < x.d) (hdm : x.d ≤ m) (hnm : n + m = N) :
 Calls Try.prog 60 #[.pointer (some ⟨B, 0, none⟩), .agg #[.int .i64 x.a, .int .i64 x.b, .int .i64 x.c, .int .i64 x.d]] w fun e w' => e = .returned (.tuple #[]) ∧ ∃ p', LI w' base g N cap p' ∧ PF N (linkF n r x) p' ∧ w.grownBy w' (some g) := by
 have HW := Aside0.mk hW
 have HV := Aside0.mk h
 have HP := Aside0.mk hp
 have HO := Aside0.mk ho
 have hgw := h.ltw
 obtain ⟨a, b, c, d⟩ := x
 dsimp only at hab hbn hcd hdm
 have HO1 := Aside0.mk (labOk_allF ho a (b - a - 1) (by omega))
 have HO2 := Aside0.mk (labOk_allF HO1.out (n + c) (d - c - 1) (by omega))
 clear hW h hp ho
 dsimp only
 go_enter Try.func60, Try.ntmps60
 go_wp2_with (first | ((with_reducible refine gate_dst (N := 3) rfl ?_); refine box_event ?hg (N := 3) ?hd (cs := #[.int .i64 a, .int .i64 b, .int .i64 c, .int .i64 d]) (t := 45) ?hr ?_; (case hd => rfl); (case hg => rfl); (case hr => first | (go_simp; done) | (go_simp; rfl)); intro gb hg w5 hbox hb; have HW5 := Aside0.mk (HW.out.below hb); have HV5 := Aside0.mk (HV.out.below hb); have HX := Aside0.mk hbox; have HGB := Aside0.mk hg; have HG5 := Aside0.mk (below_grownBy hb (some g)); have b0 : w5.cell? ⟨gb, 0, none⟩ = some (.int .i64 a) := (blk_cell hbox 0).trans rfl; have b1 : w5.cell? ⟨gb, 1, none⟩ = some (.int .i64 b) := (blk_cell hbox 1).trans rfl; clear hg hbox hb HW HV) | (go_at_call 83; refine (all_c (lo := a) (hi := b) (by_ := 0) HW5.out HV5.out hne HP.out HO.out hN hab (by omega)).mono ?_; rintro e w6 ⟨rfl, p1, a1, a2, a3⟩; have HV6 := Aside0.mk a1; have HP6 : Aside0 (PF N (allF r a (b - a - 1)) p1) := ⟨by rw [Nat.zero_add] at a2; exact a2⟩; have HW6 := Aside0.mk (HW5.out.grown a3 hne); have HX6 : Aside0 (w6.heap[gb]? = _) := ⟨(a3.block _ (blk_lt HX.out) (fun e => by have := HGB.out; have := Option.some.inj e; omega)).trans HX.out⟩; have HG6 : Aside0 (w.grownBy w6 (some g)) := ⟨World.grownBy.trans HG5.out a3⟩; clear a1 a2 a3 HW5 HV5 HX HG5 HP b0 b1))
 have q2 : w6.cell? ⟨gb, 2, none⟩ = some (.int .i64 c) := (blk_cell HX6.out 2).trans rfl
 have q3 : w6.cell? ⟨gb, 3, none⟩ = some (.int .i64 d) := (blk_cell HX6.out 3).trans rfl
 have d1 := HW6.out.c1
 go_still_tail 7, (by kernel_rfl)
 repeat still_step
 have HWd : Aside0 (WV w6.drew B g n m N cap) := ⟨HW6.out⟩
 have HVd : Aside0 (LI w6.drew base g N cap p1) := ⟨Kd.R_drew HV6.out⟩
 clear q2 q3 d1
 go_wp2_with (go_at_call 83; refine (all_c (lo := c) (hi := d) (by_ := n) HWd.out HVd.out hne HP6.out HO1.out hN hcd (by omega)).mono ?_; rintro e w7 ⟨rfl, p2, a1, a2, a3⟩; have HV7 := Aside0.mk a1; have HP7 := Aside0.mk a2; have HW7 := Aside0.mk (HWd.out.grown a3 hne); have hgd : w6.grownBy w7 (some g) := World.grownBy.trans (below_grownBy (below_drew (Below.refl _ _)) _) a3; have HX7 : Aside0 (w7.heap[gb]? = _) := ⟨(hgd.block _ (blk_lt HX6.out) (fun e => by have := HGB.out; have := Option.some.inj e; omega)).trans HX6.out⟩; have HG7 : Aside0 (w.grownBy w7 (some g)) := ⟨World.grownBy.trans HG6.out hgd⟩; clear a1 a2 a3 hgd HWd HVd HW6 HV6 HX6 HG6 HP6)
 have q0 : w7.cell? ⟨gb, 0, none⟩ = some (.int .i64 a) := (blk_cell HX7.out 0).trans rfl
 have q2 : w7.cell? ⟨gb, 2, none⟩ = some (.int .i64 c) := (blk_cell HX7.out 2).trans rfl
 have d0 := HW7.out.c0
 have d1 := HW7.out.c1
 obtain ⟨k, hk⟩ : ∃ k, k = n + c := ⟨_, rfl⟩
 have e2 : IntKind.i64.wrap ((n : Int) + (c : Int)) = (k : Int) := by rw [IntWalk.i64_in _ (by omega)]; omega
 have hkN : k < N := by omega
 have haN : a < N := by omega
 have HK := Aside0.mk hk; clear hk
 go_still_tail 15, (by kernel_rfl)
 repeat still_step
 have HVd : Aside0 (LI w7.drew base g N cap p2) := ⟨Kd.R_drew HV7.out⟩
 clear q0 q2 d0 d1
 go_wp2_with (go_at_call 84; refine (join_c HVd.out HP7.out HO2.out hN a k haN hkN).mono ?_; rintro e w8 ⟨p3, rfl, a1, a2, a3⟩; have HV8 := Aside0.mk a1; have HP8 : Aside0 (PF N (linkF n r ⟨a, b, c, d⟩) p3) := ⟨by rw [HK.out] at a2; exact a2⟩; have HG8 : Aside0 (w.grownBy w8 (some g)) := ⟨World.grownBy.trans HG7.out (World.grownBy.trans (below_grownBy (below_drew (Below.refl _ _)) _) a3)⟩; clear a1 a2 a3)
 go_end0
 exact ⟨rfl, p3, HV8.out, HP8.out, HG8.out⟩
end Go.Proofs.Ytohhobcipfmkbaa.CFin
namespace Go.Proofs.Ytohhobcipfmkbaa.CFin
open Go.RowKit Go.Proofs.YtohhobcipfmkbaaW.PrintWords Go.Proofs.YtohhobcipfmkbaaW.PrintMore Go.Proofs.YtohhobcipfmkbaaW.PrintLast Go.Proofs.Ytohhobcipfmkbaa.U Go.Proofs.Ytohhobcipfmkbaa.PClusterFinest Go.Proofs.Ytohhobcipfmkbaa.UFinest Go.Proofs.Ytohhobcipfmkbaa.UFinEv
set_option maxRecDepth 100000 in
set_option maxHeartbeats 1000000 in
theorem alone_c {w : World} (n : Nat) (hn : n ≤ 1000000) :
 Calls Try.prog 59 #[.int .i64 n] w fun e w' => ∃ (g cap : Nat) (p : List Int), e = .returned (.slice (some ⟨g, 0, none⟩) n cap) ∧ LI w' w.heap.size g n cap p ∧ PF n idL p ∧ Below w.heap.size w w' := by
 go_enter Try.func59, Try.ntmps59
 go_wp2_with (first | ((with_reducible refine gate_dst (N := 6) rfl ?_); refine Kd.R_make (Kd.int .i64) (w0 := w) w.heap.size 3 rfl (N := 6) rfl 84 _ _ rfl n rfl rfl Try.underlying84 (.int .i64 0) 8 info3 rfl (by decide) (by omega) 0 (ok := fun _ => True) (okp := fun _ => True) rfl (fun _ hk => hk) trivial (by omega) (by omega) (Below.refl _ _) (Nat.le_refl _) ?_; intro v w1 hv hb hg hnew; obtain ⟨g, cap, ev, hgo⟩ := R_form hv (hnew.imp fun _ h => h.1); subst ev; rw [List.length_replicate, Int.toNat_natCast] at hv ⊢; have HV := Aside0.mk (LI.of_R hv); have HB := Aside0.mk hb; clear hv hb hg hnew hgo))
 go_loopw [9] (fun v wr => ∃ (k : Nat) (xs : List Int), v = .int .i64 k ∧ k ≤ n ∧ Aside0 (xs.length = n) ∧ Aside0 (Upto 0 k xs) ∧ Aside0 (LI wr w.heap.size g n cap xs) ∧ Aside0 (Below w.heap.size w wr)) (fun v _ => n - (intOf v).toNat)
 case atStart => exact ⟨0, List.replicate n 0, rfl, Nat.zero_le _, ⟨List.length_replicate ..⟩, ⟨fun i hi => absurd hi (Nat.not_lt_zero i)⟩, HV, HB⟩
 case round =>
  clear HV HB
  obtain ⟨k, xs, rfl, hk, HXL, HUP, HV, HB⟩ := hrel
  by_cases hlt : k < n
  ·obtain ⟨hy, hz⟩ := HV.out.cell k hlt
   have HP := Aside0.mk (HV.out.put k (k : Int))
   have HU : Aside0 (Upto 0 (k + 1) (xs.set k (k : Int))) := ⟨by have := HUP.out.set (by rw [HXL.out]; exact hlt); rwa [Nat.zero_add] at this⟩
   have HXL2 : Aside0 ((xs.set k (k : Int)).length = n) := ⟨by rw [List.length_set]; exact HXL.out⟩
   have HGE := Aside0.mk HV.out.lt
   clear HV HUP
   have hkI : (k : Int) < (n : Int) := by omega
   go_wp2_with fail
   exact ⟨⟨k + 1, _, by go_num, by omega, HXL2, HU, HP, ⟨HB.out.setCell (p := ⟨g, k, none⟩) HGE.out _⟩⟩, by simp [intOf]; omega⟩
  ·have ek : k = n := by omega
   subst ek
   go_wp2_with fail
   go_ret
   exact ⟨g, cap, xs, rfl, HV.out, PF.id (fun i hi => by have := HUP.out i hi; rwa [Nat.zero_add] at this), HB.out⟩
end Go.Proofs.Ytohhobcipfmkbaa.CFin
namespace Go.Proofs.Ytohhobcipfmkbaa.CFin
open Go.RowKit Go.Proofs.YtohhobcipfmkbaaW.PrintWords Go.Proofs.YtohhobcipfmkbaaW.PrintMore Go.Proofs.YtohhobcipfmkbaaW.PrintLast Go.Proofs.Ytohhobcipfmkbaa.U Go.Proofs.Ytohhobcipfmkbaa.PClusterFinest Go.Proofs.Ytohhobcipfmkbaa.UFinest Go.Proofs.Ytohhobcipfmkbaa.UFinEv
theorem index_loop (P : Nat → Bool) (b : List Bool) (hb : RepB P b) (hl : b.length ≤ 1000000) (d : Nat) : ∀ i : Nat, i + d = b.length → (∀ j, j < i → P j = false) → (List.range b.length).findIdx P < b.length →
 Ev (fun k => slices_Index_bool_bool.l0 k b true (b.length : Int) (i : Int)) (((List.range b.length).findIdx P : Nat) : Int) := by
 induction d with
 | zero =>
  intro i hd hf hlt
  exfalso
  have h := List.findIdx_getElem (xs := List.range b.length) (p := P) (w := by simpa using hlt)
  rw [List.getElem_range] at h
  rw [hf _ (by omega)] at h
  cases h
 | succ d ih =>
  intro i hd hf hfl
  have hlt : i < b.length := by omega
  refine Ev.step (fun k => by rw [slices_Index_bool_bool.l0]) (ev_pos (by omega) (ev_pos (by omega) (ev_pos (by omega) ?_)))
  rw [rdB, hb i hlt]
  by_cases hp : P i = true
  ·have hfi : (List.range b.length).findIdx P = i := by
    rw [List.findIdx_eq (by simpa using hlt)]
    refine ⟨by simpa using hp, fun j hj => ?_⟩
    simp [hf j hj]
   rw [hfi]
   exact ev_pos (by rw [hp]; rfl) (ev_now _)
  ·have hpf : P i = false := by simpa using hp
   refine ev_neg (by rw [hpf]; decide) ?_
   rw [w64 (by omega) (by omega), show (i : Int) + 1 = ((i + 1 : Nat) : Int) by omega]
   exact ih (i + 1) (by omega) (fun j hj => by
    by_cases hji : j = i
    ·subst hji; exact hpf
    ·exact hf j (by omega)) hfl
theorem index_c (n : Nat) {w : World} {base g cap : Nat} {L : List Lk} {b : List Bool} (h : LB w base g n cap b) (hl : b.length = n) (hn : n ≤ 1000000) (hb : RepB (linkedB L) b) (hf : firstF L n < n) :
 Calls Try.prog 85 #[.slice (some ⟨g, 0, none⟩) n cap, .bool true] w fun e w' => e = .returned (.int .i64 (firstF L n : Nat)) ∧ Drawn0 w w' := by
 obtain ⟨_, hc, hC⟩ := Kd.R_reads' h
 subst hl
 have he : Ev (fun k => slices_Index_bool_bool.f k b true) ((firstF L b.length : Nat) : Int) := index_loop (linkedB L) b hb hn b.length 0 (by omega) (fun j h => absurd h (Nat.not_lt_zero j)) hf
 obtain ⟨k, hk⟩ := ev_some he
 exact slices_Index_bool_bool.calls k _ cap b true _ w hC hc hk
end Go.Proofs.Ytohhobcipfmkbaa.CFin
namespace Go.Proofs.Ytohhobcipfmkbaa.CFin
open Go.RowKit Go.Proofs.YtohhobcipfmkbaaW.PrintWords Go.Proofs.YtohhobcipfmkbaaW.PrintMore Go.Proofs.YtohhobcipfmkbaaW.PrintLast Go.Proofs.Ytohhobcipfmkbaa.U Go.Proofs.Ytohhobcipfmkbaa.PClusterFinest Go.Proofs.Ytohhobcipfmkbaa.UFinest Go.Proofs.Ytohhobcipfmkbaa.UFinEv
theorem drawn0_below {w w' : World} (h : Drawn0 w w') : Below w.heap.size w w' := by
 obtain ⟨q, rfl⟩ := h
 exact pw_below_drewN (Below.refl _ _) q
theorem LB.put {w : World} {base g n cap : Nat} {xs : List Bool} (h : LB w base g n cap xs) (i : Nat) (x : Bool) : LB (w.setCell ⟨g, i, none⟩ (.bool x)) base g n cap (xs.set i x) := by
 have := (Kd.R_putg h (i : Int) x).1
 rwa [Int.toNat_natCast] at this
theorem LB.fro {w : World} {base g n cap : Nat} {xs : List Bool} (h : LB w base g n cap xs) (i : Nat) (hi : i < n) : w.frozen? ⟨g, i, none⟩ = false := by
 have := (Kd.R_celln false h (i : Int) (by omega) (by omega)).2
 rwa [Int.toNat_natCast] at this
theorem LB.other {w : World} {base g n cap : Nat} {xs : List Bool} (h : LB w base g n cap xs) {g' : Nat} (hg : g ≠ g') (i : Nat) (v : Value) : LB (w.setCell ⟨g', i, none⟩ v) base g n cap xs :=
 Kd.R_grown h (grown_set w g' i v) (fun k hk e => hg (by rw [← hk]; exact Option.some.inj e))
theorem LB.len {w : World} {base g n cap : Nat} {xs : List Bool} (h : LB w base g n cap xs) : n = xs.length := (Kd.R_reads' h).1
theorem LB.lt {w : World} {base g n cap : Nat} {xs : List Bool} (h : LB w base g n cap xs) : base ≤ g := by
 obtain ⟨_, h2, _, _⟩ := (Kd.R_bound h).1 g rfl
 exact h2
set_option maxRecDepth 100000 in
set_option maxHeartbeats 1000000 in
theorem stray_c {w : World} {base B g n m N cap c : Nat} {A : Option Addr} {p : List Int} {r : Lab} {l : List S45} (hW : WV w B g n m N cap) (h : LI w base g N cap p) (hne : B ≠ g) (hp : PF N r p) (ho : LabOk N r) (hN : N ≤ 100000) (hnm : n + m = N) (hm : 0 < m)
 (hC : Kd.C k45 w A l.length l) (hl : l.length ≤ 5000) (hlk : ∀ x ∈ l, LinkOk n m x) (hf : firstF (l.map lkOf) n < n) :
 Calls Try.prog 61 #[.pointer (some ⟨B, 0, none⟩), .slice A l.length c] w fun e w' => e = .returned (.tuple #[]) ∧ ∃ p', LI w' base g N cap p' ∧ PF N (strayF (l.map lkOf) n r n) p' ∧ w.grownBy w' (some g) := by
 have HW := Aside0.mk hW
 have HV := Aside0.mk h
 have HP := Aside0.mk hp
 have HO := Aside0.mk ho
 have HC := Aside0.mk hC
 have HLK := Aside0.mk hlk
 have HF := Aside0.mk hf
 have hgw := h.ltw
 have d1 := hW.c1
 clear hW h hp ho hC hlk hf
 go_enter Try.func61, Try.ntmps61
 go_wp2_with (first | ((with_reducible refine gate_dst (N := 14) rfl ?_); refine Kd.R_make Kd.bool (w0 := w) w.heap.size 4 rfl (N := 14) rfl 91 _ _ rfl n rfl rfl Try.underlying91 (.bool false) 1 info4 rfl (by decide) (by omega) false (ok := fun _ => True) (okp := fun _ => True) rfl (fun _ hk => hk) trivial (by omega) (by omega) (Below.refl _ _) (Nat.le_refl _) ?_; intro v w1 hv hb hg hnew; obtain ⟨gl, capl, ev, hgo⟩ := R_form hv (hnew.imp fun _ h => h.1); subst ev; rw [List.length_replicate, Int.toNat_natCast] at hv ⊢; have HB0 := Aside0.mk (LB.of_R hv); have HB := Aside0.mk hb; clear hv hb hg hnew hgo d1))
 go_loopw [17] (fun v wr => ∃ (k : Nat) (bs : List Bool), v = .int .i64 k ∧ k ≤ l.length ∧ Aside0 (RepB (linkedB ((l.take k).map lkOf)) bs) ∧ Aside0 (LB wr w.heap.size gl n capl bs) ∧ Aside0 (Below w.heap.size w wr)) (fun v _ => l.length - (intOf v).toNat)
 case atStart => exact ⟨0, List.replicate n false, rfl, Nat.zero_le _, ⟨fun i hi => by simp at hi; simp [linkedB, List.getD_eq_getElem?_getD, List.getElem?_replicate, hi]⟩, HB0, HB⟩
 case round =>
  clear HB0 HB
  obtain ⟨k, bs, rfl, hk, HR, HB0, HB⟩ := hrel
  by_cases hlt : k < l.length
  ·have hx := HLK.out _ (List.getElem_mem hlt)
   obtain ⟨ad, ead, c0, c1, c2, c3⟩ := at_T45 (Kd.C_below HC.out HB.out) (k : Int) (by omega) (by omega)
   rw [rd45 hlt, Int.toNat_natCast] at c0 c1 c2 c3
   have ha0 := hx.a0; have hab := hx.ab; have hbn := hx.bn
   obtain ⟨lo, hlo⟩ : ∃ lo : Nat, l[k].f0.f0 = (lo : Int) := ⟨l[k].f0.f0.toNat, by omega⟩
   obtain ⟨hi, hhi⟩ : ∃ hi : Nat, l[k].f0.f1 = (hi : Int) := ⟨l[k].f0.f1.toNat, by omega⟩
   rw [hlo] at c0
   rw [hhi] at c1
   generalize hx3 : l[k].f1.f0 = x3 at c2
   generalize hx4 : l[k].f1.f1 = x4 at c3
   have HLO := Aside0.mk hlo
   have HHI := Aside0.mk hhi
   have hlh : lo < hi := by omega
   have hhn : hi ≤ n := by omega
   have HEA := Aside0.mk ead
   subst ead
   clear hx ha0 hab hbn hlo hhi hx3 hx4
   have hkI : (k : Int) < (l.length : Int) := by omega
   go_wp2_with (first | ((with_reducible refine gate_dst (N := 6) rfl ?_); refine box_event ?hg (N := 6) ?hd (cs := #[.int .i64 0, .int .i64 0, .int .i64 0, .int .i64 0]) (t := 45) ?hr ?_; (case hd => rfl); (case hg => rfl); (case hr => first | (go_simp; done) | (go_simp; rfl)); intro gb hg w6 hbox hb; have HX6 := Aside0.mk hbox; have HGB := Aside0.mk hg; have HGW := Aside0.mk HB0.out.ltw; have HGX : Aside0 (w.heap.size ≤ gb) := ⟨by rw [hg]; exact HB.out.size⟩; have HB6 : Aside0 (Below w.heap.size w w6) := ⟨below_step HB.out hb⟩; have HB06 := Aside0.mk (HB0.out.below hb); have z0 : w6.cell? ⟨gb, 0, none⟩ = some (.int .i64 0) := (blk_cell hbox 0).trans rfl; have z1 : w6.cell? ⟨gb, 1, none⟩ = some (.int .i64 0) := (blk_cell hbox 1).trans rfl; have z2 : w6.cell? ⟨gb, 2, none⟩ = some (.int .i64 0) := (blk_cell hbox 2).trans rfl; have z3 : w6.cell? ⟨gb, 3, none⟩ = some (.int .i64 0) := (blk_cell hbox 3).trans rfl; have f0 := blk_frozen hbox 0; have f1 := blk_frozen hbox 1; have f2 := blk_frozen hbox 2; have f3 := blk_frozen hbox 3; clear hg hbox hb HB HB0))
   have hgl := HB06.out.ltw
   have HNG : Aside0 (gl ≠ gb) := ⟨by have h1 := HGB.out; have h2 := HGW.out; omega⟩
   have HGE : Aside0 (w.heap.size ≤ gb) := ⟨HGX.out⟩
   have HX := Aside0.mk (blk_put (blk_put (blk_put (blk_put HX6.out 0 (.int .i64 lo) rfl) 1 (.int .i64 hi) rfl) 2 (.int .i64 x3) rfl) 3 (.int .i64 x4) rfl)
   have HB7 := Aside0.mk ((((HB6.out.setCell (p := ⟨gb, 0, none⟩) HGE.out (.int .i64 lo)).setCell (p := ⟨gb, 1, none⟩) HGE.out (.int .i64 hi)).setCell (p := ⟨gb, 2, none⟩) HGE.out (.int .i64 x3)).setCell (p := ⟨gb, 3, none⟩) HGE.out (.int .i64 x4))
   have HB07 := Aside0.mk ((((HB06.out.other HNG.out 0 (.int .i64 lo)).other HNG.out 1 (.int .i64 hi)).other HNG.out 2 (.int .i64 x3)).other HNG.out 3 (.int .i64 x4))
   clear z0 z1 z2 z3 f0 f1 f2 f3 HX6 HB6 HB06 hgl c0 c1 c2 c3
   go_loopw [7] (fun v wr => ∃ (t : Nat) (bs : List Bool), v = .int .i64 t ∧ lo ≤ t ∧ t ≤ hi ∧ Aside0 (RepB (fun q => linkedB ((l.take k).map lkOf) q || (decide (lo ≤ q) && decide (q < t))) bs) ∧ Aside0 (LB wr w.heap.size gl n capl bs) ∧ Aside0 (wr.heap[gb]? = some (.cells #[.int .i64 lo, .int .i64 hi, .int .i64 x3, .int .i64 x4] 45 (0, 0))) ∧ Aside0 (Below w.heap.size w wr)) (fun v _ => hi - (intOf v).toNat)
   case atStart => exact ⟨lo, bs, rfl, Nat.le_refl _, by omega, ⟨fun q hq => by rw [HR.out q hq]; have : (decide (lo ≤ q) && decide (q < lo)) = false := (by simp <;> omega); dsimp only; rw [this, Bool.or_false]⟩, HB07, HX, HB7⟩
   case round =>
    clear HB07 HX HB7 HR
    obtain ⟨t, bs, rfl, ht1, ht2, HR, HB0, HX, HB⟩ := hrel
    have b1 : wr.cell? ⟨gb, 1, none⟩ = some (.int .i64 hi) := (blk_cell HX.out 1).trans rfl
    by_cases hlt2 : t < hi
    ·have hcl := HB0.out.cell t (by omega)
     have hfr := HB0.out.fro t (by omega)
     have HP2 := Aside0.mk (HB0.out.put t true)
     have HR2 : Aside0 (RepB (fun q => linkedB ((l.take k).map lkOf) q || (decide (lo ≤ q) && decide (q < t + 1))) (bs.set t true)) := ⟨by
      intro q hq
      rw [repB_set HR.out t (by rw [← HB0.out.len]; omega) q hq]
      dsimp only
      by_cases e : q = t
      ·subst e; simp; omega
      ·have e1 : decide (q = t) = false := decide_eq_false e
       have e2 : decide (q < t + 1) = decide (q < t) := by rw [decide_eq_decide]; omega
       rw [e1, e2, Bool.or_false]⟩
     have HX2 : Aside0 ((wr.setCell ⟨gl, t, none⟩ (.bool true)).heap[gb]? = some (.cells #[.int .i64 lo, .int .i64 hi, .int .i64 x3, .int .i64 x4] 45 (0, 0))) := ⟨((grown_set wr gl t (.bool true)).block _ (blk_lt HX.out) (fun e => HNG.out (Option.some.inj e).symm)).trans HX.out⟩
     have HGL := Aside0.mk HB0.out.lt
     have htI : (t : Int) < (hi : Int) := by omega
     have htn : (t : Int) < (n : Int) := by omega
     clear HR HX HB0
     go_wp2_with fail
     exact ⟨⟨t + 1, _, by go_num, by omega, by omega, HR2, HP2, HX2, ⟨HB.out.setCell (p := ⟨gl, t, none⟩) HGL.out _⟩⟩, by simp [intOf]; omega⟩
    ·have et : t = hi := by omega
     subst et
     have HR3 : Aside0 (RepB (linkedB ((l.take (k + 1)).map lkOf)) bs) := ⟨by
      intro q hq
      rw [HR.out q hq, List.take_succ_eq_append_getElem hlt, List.map_append]
      unfold linkedB
      rw [List.any_append]
      have ea : (lkOf l[k]).a = lo := by unfold lkOf; dsimp only; rw [HLO.out, Int.toNat_natCast]
      have eb : (lkOf l[k]).b = t := by unfold lkOf; dsimp only; rw [HHI.out, Int.toNat_natCast]
      simp [ea, eb]⟩
     clear HR
     go_wp2_with fail
     exact ⟨⟨k + 1, bs, by go_num, by omega, HR3, HB0, HB⟩, by simp [intOf]; omega⟩
  ·have ek : k = l.length := by omega
   subst ek
   have HR2 : Aside0 (RepB (linkedB (l.map lkOf)) bs) := ⟨by have := HR.out; rwa [List.take_of_length_le (Nat.le_refl _)] at this⟩
   clear HR
   obtain ⟨f, hfe⟩ : ∃ f, f = firstF (l.map lkOf) n := ⟨_, rfl⟩
   have HFE := Aside0.mk hfe; clear hfe
   go_wp2_with (go_at_call 85; refine (index_c n HB0.out HB0.out.len.symm (by omega) HR2.out HF.out).mono ?_; rintro e w3 ⟨rfl, hd⟩; rw [← HFE.out]; have hb3 := drawn0_below hd; have HB3 : Aside0 (Below w.heap.size w w3) := ⟨below_step HB.out hb3⟩; have HB03 := Aside0.mk (HB0.out.below hb3); clear hd hb3 HB HB0)
   have HW3 := Aside0.mk (HW.out.below HB3.out)
   have HV3 := Aside0.mk (HV.out.below HB3.out)
   have HG3 := Aside0.mk (below_grownBy HB3.out (some g))
   have HNL : Aside0 (gl ≠ g) := ⟨by have := HB03.out.lt; omega⟩
   go_loopw [39] (fun v wr => ∃ (i : Nat) (p : List Int), v = .int .i64 i ∧ i ≤ n ∧ Aside0 (WV wr B g n m N cap) ∧ Aside0 (LI wr base g N cap p) ∧ Aside0 (PF N (strayF (l.map lkOf) n r i) p) ∧ Aside0 (LabOk N (strayF (l.map lkOf) n r i)) ∧ Aside0 (LB wr w.heap.size gl n capl bs) ∧ Aside0 (w.grownBy wr (some g))) (fun v _ => n - (intOf v).toNat)
   case atStart => exact ⟨0, p, rfl, Nat.zero_le _, HW3, HV3, HP, HO, HB03, HG3⟩
   case round =>
    clear HW3 HV3 HG3 HB03 HW HV HP HO HB3
    obtain ⟨i, p, rfl, hi, HW, HV, HP, HO, HB0, HG⟩ := hrel
    by_cases hlt : i < n
    ·have hcl := HB0.out.cell i hlt
     rw [HR2.out i (by rw [← HB0.out.len]; exact hlt)] at hcl
     have d0 := HW.out.c0
     have hiI : (i : Int) < (n : Int) := by omega
     obtain ⟨b, hb⟩ : ∃ b, b = linkedB (l.map lkOf) i := ⟨_, rfl⟩
     rw [← hb] at hcl
     have HBB := Aside0.mk hb; clear hb
     cases b with
     | true =>
      have HST : Aside0 (strayF (l.map lkOf) n r (i + 1) = strayF (l.map lkOf) n r i) := ⟨by show (if linkedB (l.map lkOf) i then _ else _) = _; rw [if_pos HBB.out.symm]⟩
      go_wp2_with fail
      exact ⟨⟨i + 1, p, by go_num, by omega, HW, HV, ⟨by rw [HST.out]; exact HP.out⟩, ⟨by rw [HST.out]; exact HO.out⟩, HB0, HG⟩, by simp [intOf]; omega⟩
     | false =>
      by_cases hfi : f < i
      ·have HST : Aside0 (strayF (l.map lkOf) n r (i + 1) = merge (strayF (l.map lkOf) n r i) (i - 1) i) := ⟨by show (if linkedB (l.map lkOf) i then _ else _) = _; rw [if_neg (by rw [← HBB.out]; simp), if_pos (by rw [← HFE.out]; exact hfi)]⟩
       have hfI : (f : Int) < (i : Int) := by omega
       have e1 : IntKind.i64.wrap ((i : Int) - 1) = ((i - 1 : Nat) : Int) := by rw [IntWalk.i64_in _ (by omega)]; omega
       obtain ⟨j, hj⟩ : ∃ j, j = i - 1 := ⟨_, rfl⟩
       rw [← hj] at e1
       have HJ := Aside0.mk hj
       have hjN : j < N := by omega
       have hiN : i < N := by omega
       clear hj
       go_wp2_with (go_at_call 84; refine (join_c HV.out HP.out HO.out (by omega) j i hjN hiN).mono ?_; rintro e w5 ⟨p1, rfl, a1, a2, a3⟩; have HV5 := Aside0.mk a1; have HP5 : Aside0 (PF N (strayF (l.map lkOf) n r (i + 1)) p1) := ⟨by rw [HST.out, ← HJ.out]; exact a2⟩; have HG5 := Aside0.mk a3; clear a1 a2 a3)
       exact ⟨⟨i + 1, p1, by go_num, by omega, ⟨HW.out.grown HG5.out hne⟩, HV5, HP5, ⟨by rw [HST.out]; exact HO.out.merge _ _ (by omega) hiN⟩, ⟨Kd.R_grown HB0.out HG5.out (fun q hq e => HNL.out (by rw [← hq]; exact Option.some.inj e))⟩, ⟨World.grownBy.trans HG.out HG5.out⟩⟩, by simp [intOf]; omega⟩
      ·have HST : Aside0 (strayF (l.map lkOf) n r (i + 1) = merge (strayF (l.map lkOf) n r i) i (i + 1)) := ⟨by show (if linkedB (l.map lkOf) i then _ else _) = _; rw [if_neg (by rw [← HBB.out]; simp), if_neg (by rw [← HFE.out]; exact hfi)]⟩
       have hfI : ¬ (f : Int) < (i : Int) := by omega
       have hfI2 : (i : Int) ≤ (f : Int) := by omega
       have hjN : i + 1 < N := by omega
       have hiN : i < N := by omega
       have e1 : IntKind.i64.wrap ((i : Int) + 1) = ((i + 1 : Nat) : Int) := by rw [IntWalk.i64_in _ (by omega)]; omega
       go_wp2_with (go_at_call 84; refine (join_c HV.out HP.out HO.out (by omega) i (i + 1) hiN hjN).mono ?_; rintro e w5 ⟨p1, rfl, a1, a2, a3⟩; have HV5 := Aside0.mk a1; have HP5 : Aside0 (PF N (strayF (l.map lkOf) n r (i + 1)) p1) := ⟨by rw [HST.out]; exact a2⟩; have HG5 := Aside0.mk a3; clear a1 a2 a3)
       exact ⟨⟨i + 1, p1, by go_num, by omega, ⟨HW.out.grown HG5.out hne⟩, HV5, HP5, ⟨by rw [HST.out]; exact HO.out.merge _ _ hiN hjN⟩, ⟨Kd.R_grown HB0.out HG5.out (fun q hq e => HNL.out (by rw [← hq]; exact Option.some.inj e))⟩, ⟨World.grownBy.trans HG.out HG5.out⟩⟩, by simp [intOf]; omega⟩
    ·have ei : i = n := by omega
     subst ei
     go_wp2_with fail
     go_end0
     exact ⟨rfl, p, HV.out, HP.out, HG.out⟩
end Go.Proofs.Ytohhobcipfmkbaa.CFin
namespace Go.Proofs.Ytohhobcipfmkbaa.CFin
open Go.RowKit Go.Maps Go.Proofs.YtohhobcipfmkbaaW.PrintWords Go.Proofs.YtohhobcipfmkbaaW.PrintMore Go.Proofs.YtohhobcipfmkbaaW.PrintLast Go.Proofs.Ytohhobcipfmkbaa.U Go.Proofs.Ytohhobcipfmkbaa.PClusterFinest Go.Proofs.Ytohhobcipfmkbaa.UFinest Go.Proofs.Ytohhobcipfmkbaa.UFinEv
theorem keyed3 : Keyed Try.prog 3 := int_keyed Try.underlying3
def MV (w : World) (b n : Nat) (f : Nat → Nat) : Prop := ∃ D : DataW Unit, IsMap D ∧ w.ownsMap Try.prog 3 (plainElem Try.prog 3) b n D ∧ ∀ v : Nat, D.atKey (.int .i64 v) (.lit (.int .i64 0)) = .lit (.int .i64 (f v : Nat))
theorem MV.made (w : World) : MV (w.alloc (.map #[] 0)) w.heap.size 0 (fun _ => 0) := ⟨.map [], isMap_empty, World.ownsMap_made w _ _ _, fun v => rfl⟩
theorem MV.kept {w w' : World} {b n : Nat} {f : Nat → Nat} (h : MV w b n f) {row : Option Nat} (hg : w.grownBy w' row) (hne : some b ≠ row) : MV w' b n f := by
 obtain ⟨D, h1, h2, h3⟩ := h
 exact ⟨D, h1, h2.kept hg hne, h3⟩
theorem MV.lt {w : World} {b n : Nat} {f : Nat → Nat} (h : MV w b n f) : b < w.heap.size := by
 obtain ⟨D, h1, h2, h3⟩ := h
 exact h2.lt
theorem key3 (v : Nat) (hv : v ≤ 1000000) : keyOf Try.prog 3 (.int .i64 v) = some (.int .i64 v) := by
 simp [keyOf, mapKey, Try.underlying3, Lit.wf]
 have : IntKind.i64.min = -9223372036854775808 := by decide
 omega
set_option maxRecDepth 100000 in
theorem MV.lookup {w : World} {b n : Nat} {f : Nat → Nat} (h : MV w b n f) (v : Nat) (hv : v ≤ 1000000) (hz : (zeroValue 3).run Try.prog w = .ok (.int .i64 0) w) : (Instr.lookup 112 (.map (some b)) (.int .i64 v) false).run Try.prog w = .ok (.int .i64 (f v : Nat)) w := by
 obtain ⟨D, h1, h2, h3⟩ := h
 obtain ⟨c, hr, hc, _⟩ := h2.lookup_int keyed3 Try.underlying112 Try.underlying3 hz (key3 v hv)
 rw [h3 v] at hc
 injection hc with hc
 injection hc with _ hc
 rw [hc]
 exact hr
theorem MV.put {w w' : World} {b n v i : Nat} {f : Nat → Nat} {D : DataW Unit} (h1 : IsMap D) (h3 : ∀ v : Nat, D.atKey (.int .i64 v) (.lit (.int .i64 0)) = .lit (.int .i64 (f v : Nat))) (hv : v ≤ 1000000) (h2 : w'.ownsMap Try.prog 3 (plainElem Try.prog 3) b (n + 1) (D.put (.int .i64 v) (.lit (.int .i64 i)))) : MV w' b (n + 1) (fun x => if x = v then i else f x) := by
 refine ⟨_, h1.put _ _, h2, fun x => ?_⟩
 by_cases e : x = v
 ·subst e
  rw [atKey_put_same h1 (keyed3.key (key3 x hv))]
  dsimp only
  rw [if_pos rfl]
 ·rw [atKey_put_other (fun h => e (by injection h with _ h; omega))]
  dsimp only
  rw [if_neg e]
  exact h3 x
theorem elem3 (i : Nat) (hi : i ≤ 1000000) : (plainElem Try.prog 3 (.int .i64 i) : Option (DataW Unit × List MemPlace)) = some (.lit (.int .i64 i), []) := plainElem_int Try.underlying3 (by
 simp [Lit.wf]
 have : IntKind.i64.min = -9223372036854775808 := by decide
 omega)
theorem zero3 (w : World) : (zeroValue 3).run Try.prog w = .ok (.int .i64 0) w := by
 obtain ⟨i, hi, hz⟩ := Option.map_eq_some_iff.1 info3
 simp only [Prod.mk.injEq] at hz
 simp [zeroValue, typeInfo, hi, hz.1]
end Go.Proofs.Ytohhobcipfmkbaa.CFin
namespace Go.Proofs.Ytohhobcipfmkbaa.CFin
open Go.RowKit Go.Maps Go.Proofs.YtohhobcipfmkbaaW.PrintWords Go.Proofs.YtohhobcipfmkbaaW.PrintMore Go.Proofs.YtohhobcipfmkbaaW.PrintLast Go.Proofs.Ytohhobcipfmkbaa.U Go.Proofs.Ytohhobcipfmkbaa.PClusterFinest Go.Proofs.Ytohhobcipfmkbaa.UFinest Go.Proofs.Ytohhobcipfmkbaa.UFinEv
theorem labOk_closeIn {N : Nat} (last : Nat → Nat) (i : Nat) (hi : i < N) (hl : ∀ v, last v < N) (f : Nat) : ∀ (k : Nat) (r : Lab) (t : Bool), LabOk N r → LabOk N (closeIn last i f k r t).1 := by
 induction f with
 | zero => intro k r t h; exact h
 | succ f ih =>
  intro k r t h
  unfold closeIn
  split
  ·rename_i hk
   exact ih _ _ _ (h.merge _ _ hi (Nat.lt_of_le_of_lt hk (hl _)))
  ·exact h
theorem labOk_closeTo {N : Nat} (last : Nat → Nat) (lo hi : Nat) (hN : hi ≤ N) (hl : ∀ v, last v < N) (k : Nat) (hk : lo + k ≤ hi) (s : Lab × Bool) (h : LabOk N s.1) : LabOk N (closeTo last lo hi k s).1 := by
 induction k with
 | zero => exact h
 | succ k ih => exact labOk_closeIn last _ (by omega) hl _ _ _ _ (ih (by omega))
theorem labOk_closeF {N : Nat} {r : Lab} (lo hi : Nat) (hlh : lo < hi) (hN : hi ≤ N) (h : LabOk N r) : LabOk N (closeF r lo hi).1 :=
 labOk_closeTo _ lo hi hN (fun v => Nat.lt_of_lt_of_le (lastF_lt r lo hi hlh v) hN) _ (by omega) _ h
theorem MV.cast {w : World} {b n : Nat} {f f' : Nat → Nat} (h : MV w b n f) (e : ∀ v, f v = f' v) : MV w b n f' := by
 obtain rfl : f = f' := funext e
 exact h
theorem grown_new {w a b : World} {g gm : Nat} (h1 : w.grownBy a (some g)) (h2 : a.grownBy b (some gm)) (hgm : w.heap.size ≤ gm) : w.grownBy b (some g) :=
 ⟨h2.os.trans h1.os, h2.tape.trans h1.tape, h2.output.trans h1.output, Nat.le_trans h1.size h2.size, fun k hk hne => (h2.block k (Nat.lt_of_lt_of_le hk h1.size) (fun e => by have := Option.some.inj e; omega)).trans (h1.block k hk hne)⟩
theorem MV.last {w' : World} {b n x i lo j : Nat} {r : Lab} {D : DataW Unit} (hx : x = r i) (hi : i = lo + j) (hv : x ≤ 1000000) (h1 : IsMap D) (h3 : ∀ v : Nat, D.atKey (.int .i64 v) (.lit (.int .i64 0)) = .lit (.int .i64 (lastF r lo j v : Nat))) (h2 : w'.ownsMap Try.prog 3 (plainElem Try.prog 3) b (n + 1) (D.put (.int .i64 x) (.lit (.int .i64 i)))) : MV w' b (n + 1) (lastF r lo (j + 1)) := by
 refine (MV.put (w := w') h1 h3 hv h2).cast fun v => ?_
 subst hx hi
 show (if v = r (lo + j) then lo + j else lastF r lo j v) = (if r (lo + j) = v then lo + j else lastF r lo j v)
 simp only [eq_comm]
set_option maxRecDepth 100000 in
set_option maxHeartbeats 1000000 in
theorem close_c {w : World} {base B g n m N cap : Nat} {p : List Int} {r : Lab} (hW : WV w B g n m N cap) (h : LI w base g N cap p) (hne : B ≠ g) (hp : PF N r p) (ho : LabOk N r) (hN : N ≤ 100000) (lo hi : Nat) (hlh : lo < hi) (hh : hi ≤ N) :
 Calls Try.prog 62 #[.pointer (some ⟨B, 0, none⟩), .agg #[.int .i64 lo, .int .i64 hi]] w fun e w' => e = .returned (.bool (closeF r lo hi).2) ∧ ∃ p', LI w' base g N cap p' ∧ PF N (closeF r lo hi).1 p' ∧ w.grownBy w' (some g) := by
 have HW := Aside0.mk hW
 have HV := Aside0.mk h
 have HP := Aside0.mk hp
 have HO := Aside0.mk ho
 have hgw := h.ltw
 clear hW h hp ho
 have hmm := @run_makeMap Try.prog
 go_enter Try.func62, Try.ntmps62
 go_wp2_with (first | ((with_reducible refine gate_dst (N := 3) rfl ?_); refine box_event ?hg (N := 3) ?hd (cs := #[.int .i64 lo, .int .i64 hi]) (t := 33) ?hr ?_; (case hd => rfl); (case hg => rfl); (case hr => first | (go_simp; done) | (go_simp; rfl)); intro gb hg w5 hbox hb; have HW5 := Aside0.mk ((HW.out.below hb).below (below_alloc (Below.refl _ _) (.map #[] 0))); have HV5 := Aside0.mk ((HV.out.below hb).below (below_alloc (Below.refl _ _) (.map #[] 0))); have HX : Aside0 ((w5.alloc (.map #[] 0)).heap[gb]? = _) := ⟨(World.grownBy_alloc w5 (.map #[] 0) none |>.block _ (blk_lt hbox) (by simp)).trans hbox⟩; have HGB : Aside0 (gb ≠ g) := ⟨by omega⟩; have HG5 : Aside0 (w.grownBy (w5.alloc (.map #[] 0)) (some g)) := ⟨World.grownBy.trans (below_grownBy hb (some g)) (World.grownBy_alloc _ _ _)⟩; have HM5 : Aside0 (MV (w5.alloc (.map #[] 0)) w5.heap.size 0 (lastF r lo 0)) := ⟨MV.made w5⟩; have HMG : Aside0 (w5.heap.size ≠ g) := ⟨by have := (HV.out.below hb).ltw; omega⟩; have HMW : Aside0 (B ≠ w5.heap.size) := ⟨by have := blk_lt (HW.out.below hb); omega⟩; have HMS : Aside0 (w.heap.size ≤ w5.heap.size) := ⟨hb.size⟩; have HMB : Aside0 (w5.heap.size ≠ gb) := ⟨by have := blk_lt hbox; omega⟩; have b0 : (w5.alloc (.map #[] 0)).cell? ⟨gb, 0, none⟩ = some (.int .i64 lo) := (blk_cell HX.out 0).trans rfl; clear hg hbox hb HW HV))
 generalize w5.heap.size = gm at *
 clear hmm
 go_loopw [6] (fun v wr => ∃ (j : Nat) (p : List Int), v = .int .i64 ((lo + j : Nat) : Int) ∧ lo + j ≤ hi ∧ Aside0 (WV wr B g n m N cap) ∧ Aside0 (LI wr base g N cap p) ∧ Aside0 (PF N r p) ∧ Aside0 (MV wr gm j (lastF r lo j)) ∧ Aside0 (wr.heap[gb]? = some (.cells #[.int .i64 lo, .int .i64 hi] 33 (0, 0))) ∧ Aside0 (w.grownBy wr (some g))) (fun v _ => hi - (intOf v).toNat)
 case atStart => exact ⟨0, p, rfl, by omega, HW5, HV5, HP, HM5, HX, HG5⟩
 case round =>
  clear HW5 HV5 HP HM5 HX HG5 b0
  obtain ⟨j, p, rfl, hj, HW, HV, HP, HM, HX, HG⟩ := hrel
  have b1 : wr.cell? ⟨gb, 1, none⟩ = some (.int .i64 hi) := (blk_cell HX.out 1).trans rfl
  have d0 := HW.out.c0
  by_cases hlt : lo + j < hi
  ·obtain ⟨i, hi'⟩ : ∃ i, i = lo + j := ⟨_, rfl⟩
   rw [← hi'] at hlt ⊢
   have hiI : (i : Int) < (hi : Int) := by omega
   have hiN : i < N := by omega
   obtain ⟨x, hx⟩ : ∃ x, x = r i := ⟨_, rfl⟩
   have HXE := Aside0.mk hx
   have hxN : x < N := by have := HO.out.le i hiN; omega
   have HIE := Aside0.mk hi'
   clear hx hi'
   go_wp2_with (first | (go_at_call 86; refine (find_c HV.out HP.out (by omega) i hiN).mono ?_; rintro e w6 ⟨p1, rfl, a1, a2, a3⟩; rw [← HXE.out]; have HV6 := Aside0.mk a1; have HP6 := Aside0.mk a2; have HG6 : Aside0 (wr.grownBy w6 (some g)) := ⟨a3⟩; clear a1 a2 a3 HV HP) | (at_mapUpdate; obtain ⟨D, m1, m2, m3⟩ := HM.out; refine wpList_mapUpdate_own _ rfl _ _ _ 112 rfl 3 3 keyed3 Try.underlying112 (plainElem Try.prog 3) gm j D rfl (m2.kept HG6.out (by intro e; exact HMG.out (Option.some.inj e))) (by unfold maxLen; omega) _ _ (.int .i64 x) rfl rfl (key3 x (by omega)) _ [] (elem3 i (by omega)) ?_; intro w7 m4 m5; have HM7 := Aside0.mk (MV.last HXE.out HIE.out (by omega) m1 m3 m4); have HG7 : Aside0 (w6.grownBy w7 (some gm)) := ⟨m5⟩; clear m1 m2 m3 m4 m5 HM))
   have HW7 : Aside0 (WV w7 B g n m N cap) := ⟨(HW.out.grown HG6.out hne).grown HG7.out HMW.out⟩
   have HV7 : Aside0 (LI w7 base g N cap p1) := ⟨HV6.out.grown HG7.out HMG.out.symm⟩
   have HX7 : Aside0 (w7.heap[gb]? = some (.cells #[.int .i64 lo, .int .i64 hi] 33 (0, 0))) := ⟨(HG7.out.block _ (Nat.lt_of_lt_of_le (blk_lt HX.out) HG6.out.size) (fun e => HMB.out (Option.some.inj e).symm)).trans ((HG6.out.block _ (blk_lt HX.out) (fun e => HGB.out (Option.some.inj e))).trans HX.out)⟩
   have HG8 : Aside0 (w.grownBy w7 (some g)) := ⟨grown_new (World.grownBy.trans HG.out HG6.out) HG7.out HMS.out⟩
   exact ⟨⟨j + 1, p1, by have := HIE.out; go_num, by have := HIE.out; omega, HW7, HV7, HP6, HM7, HX7, HG8⟩, by simp [intOf]; omega⟩
  ·obtain ⟨t, ht⟩ : ∃ t, t = hi - lo := ⟨_, rfl⟩
   have ejt : j = t := by omega
   subst ejt
   have ej : lo + j = hi := by omega
   rw [ej]
   obtain ⟨last, hlast⟩ : ∃ last, last = lastF r lo j := ⟨_, rfl⟩
   have HM2 : Aside0 (MV wr gm j last) := ⟨by rw [hlast]; exact HM.out⟩
   have HLB : Aside0 (∀ v, last v < hi) := ⟨fun v => by rw [hlast, ht]; exact lastF_lt r lo hi hlh v⟩
   have HCF : Aside0 (closeF r lo hi = closeTo last lo hi (hi - lo) (r, false)) := ⟨by rw [hlast, ht]; rfl⟩
   clear hlast ht HM hlt
   have b0 := (blk_cell HX.out 0).trans rfl
   go_wp2_with fail
   go_loopw [7, 8] (fun v7 v8 wr => ∃ (q : Nat) (p : List Int) (r1 : Lab) (t1 : Bool), v8 = .int .i64 ((lo + q : Nat) : Int) ∧ v7 = .bool t1 ∧ lo + q ≤ hi ∧ Aside0 (closeTo last lo hi q (r, false) = (r1, t1)) ∧ Aside0 (WV wr B g n m N cap) ∧ Aside0 (LI wr base g N cap p) ∧ Aside0 (PF N r1 p) ∧ Aside0 (LabOk N r1) ∧ Aside0 (MV wr gm j last) ∧ Aside0 (wr.heap[gb]? = some (.cells #[.int .i64 lo, .int .i64 hi] 33 (0, 0))) ∧ Aside0 (w.grownBy wr (some g))) (fun _ v _ => hi - (intOf v).toNat)
   case atStart => exact ⟨0, p, r, false, rfl, rfl, by omega, ⟨rfl⟩, HW, HV, HP, HO, HM2, HX, HG⟩
   case round =>
    clear HW HV HP HO HM2 HX HG b0 b1 d0
    obtain ⟨q, p, r1, t1, rfl, rfl, hq, HS, HW, HV, HP, HO, HM, HX, HG⟩ := hrel
    have b1 : wr.cell? ⟨gb, 1, none⟩ = some (.int .i64 hi) := (blk_cell HX.out 1).trans rfl
    by_cases hlt : lo + q < hi
    ·obtain ⟨i, hi'⟩ : ∃ i, i = lo + q := ⟨_, rfl⟩
     rw [← hi'] at hlt ⊢
     have hiI : (i : Int) < (hi : Int) := by omega
     have hiN : i < N := by omega
     have HIE := Aside0.mk hi'
     have e1 : IntKind.i64.wrap ((i : Int) + 1) = ((i + 1 : Nat) : Int) := by rw [IntWalk.i64_in _ (by omega)]; omega
     clear hi'
     go_wp2_with fail
     go_loopw [7, 9] (fun v7 v9 wr => ∃ (k f : Nat) (p : List Int) (r2 : Lab) (t2 : Bool), v9 = .int .i64 (k : Int) ∧ v7 = .bool t2 ∧ i < k ∧ k ≤ hi ∧ f + k = hi + i + 2 ∧ Aside0 (closeIn last i f k r2 t2 = closeIn last i (hi + 1) (i + 1) r1 t1) ∧ Aside0 (WV wr B g n m N cap) ∧ Aside0 (LI wr base g N cap p) ∧ Aside0 (PF N r2 p) ∧ Aside0 (LabOk N r2) ∧ Aside0 (MV wr gm j last) ∧ Aside0 (wr.heap[gb]? = some (.cells #[.int .i64 lo, .int .i64 hi] 33 (0, 0))) ∧ Aside0 (w.grownBy wr (some g))) (fun _ v _ => hi + 1 - (intOf v).toNat)
     case atStart => exact ⟨i + 1, hi + 1, p, r1, t1, by go_num, rfl, by omega, by omega, by omega, ⟨rfl⟩, HW, HV, HP, HO, HM, HX, HG⟩
     case round =>
      clear HW HV HP HO HM HX HG b1
      obtain ⟨k, f, p, r2, t2, rfl, rfl, hik, hkh, hf, HC, HW, HV, HP, HO, HM, HX, HG⟩ := hrel
      have d0 := HW.out.c0
      have hkN : k ≤ N := by omega
      obtain ⟨f, rfl⟩ : ∃ f', f = f' + 1 := ⟨f - 1, by omega⟩
      obtain ⟨x, hx⟩ : ∃ x, x = r2 i := ⟨_, rfl⟩
      have hxN : x < N := by have := HO.out.le i hiN; omega
      obtain ⟨z, hz⟩ : ∃ z, z = last x := ⟨_, rfl⟩
      have hzh : z < hi := by rw [hz]; exact HLB.out x
      have hC := HC.out
      rw [closeIn] at hC
      rw [← hx, ← hz] at hC
      have HXE := Aside0.mk hx
      have HZE := Aside0.mk hz
      clear hx hz HC
      by_cases hkz : k ≤ z
      ·rw [if_pos hkz] at hC
       have HC := Aside0.mk hC
       have hkzI : (k : Int) ≤ (z : Int) := by omega
       clear hC
       have hkN2 : k < N := by omega
       go_wp2_with (first | (go_at_call 86; refine (find_c HV.out HP.out (by omega) i hiN).mono ?_; rintro e w6 ⟨p1, rfl, a1, a2, a3⟩; rw [← HXE.out]; have HV6 := Aside0.mk a1; have HP6 := Aside0.mk a2; have HG6 : Aside0 (wr.grownBy w6 (some g)) := ⟨a3⟩; have hlk := (HM.out.kept a3 (fun e => HMG.out (Option.some.inj e))).lookup x (by omega) (zero3 w6); rw [← HZE.out] at hlk; have HW6 := Aside0.mk (HW.out.grown a3 hne); have d06 := HW6.out.c0; clear a1 a2 a3 HV HP) | (go_at_call 84; refine (join_c HV6.out HP6.out HO.out (by omega) i k hiN hkN2).mono ?_; rintro e w7 ⟨p2, rfl, a1, a2, a3⟩; have HV7 := Aside0.mk a1; have HP7 := Aside0.mk a2; have HG7 : Aside0 (wr.grownBy w7 (some g)) := ⟨World.grownBy.trans HG6.out a3⟩; obtain ⟨bb, hbb⟩ : ∃ bb, bb = two r2 i k := ⟨_, rfl⟩; have HBB := Aside0.mk hbb; rw [← hbb]; clear a1 a2 a3 hbb; cases bb))
       ·have HC2 : Aside0 (closeIn last i f (k + 1) (merge r2 i k) t2 = closeIn last i (hi + 1) (i + 1) r1 t1) := ⟨by have := HC.out; rw [← HBB.out] at this; simpa using this⟩
        exact ⟨⟨k + 1, f, p2, _, t2, by go_num, rfl, by omega, by omega, by omega, HC2, ⟨HW.out.grown HG7.out hne⟩, HV7, HP7, ⟨HO.out.merge _ _ hiN hkN2⟩, ⟨HM.out.kept HG7.out (fun e => HMG.out (Option.some.inj e))⟩, ⟨(HG7.out.block _ (blk_lt HX.out) (fun e => HGB.out (Option.some.inj e))).trans HX.out⟩, ⟨World.grownBy.trans HG.out HG7.out⟩⟩, by simp [intOf]; omega⟩
       ·have HC2 : Aside0 (closeIn last i f (k + 1) (merge r2 i k) true = closeIn last i (hi + 1) (i + 1) r1 t1) := ⟨by have := HC.out; rw [← HBB.out] at this; simpa using this⟩
        exact ⟨⟨k + 1, f, p2, _, true, by go_num, rfl, by omega, by omega, by omega, HC2, ⟨HW.out.grown HG7.out hne⟩, HV7, HP7, ⟨HO.out.merge _ _ hiN hkN2⟩, ⟨HM.out.kept HG7.out (fun e => HMG.out (Option.some.inj e))⟩, ⟨(HG7.out.block _ (blk_lt HX.out) (fun e => HGB.out (Option.some.inj e))).trans HX.out⟩, ⟨World.grownBy.trans HG.out HG7.out⟩⟩, by simp [intOf]; omega⟩
      ·rw [if_neg hkz] at hC
       have HS2 : Aside0 (closeTo last lo hi (q + 1) (r, false) = (r2, t2)) := ⟨by rw [closeTo, HS.out, ← HIE.out]; exact hC.symm⟩
       have hkzI : ¬ (k : Int) ≤ (z : Int) := by omega
       clear hC
       go_wp2_with (first | (go_at_call 86; refine (find_c HV.out HP.out (by omega) i hiN).mono ?_; rintro e w6 ⟨p1, rfl, a1, a2, a3⟩; rw [← HXE.out]; have HV6 := Aside0.mk a1; have HP6 := Aside0.mk a2; have HG6 : Aside0 (wr.grownBy w6 (some g)) := ⟨a3⟩; have hlk := (HM.out.kept a3 (fun e => HMG.out (Option.some.inj e))).lookup x (by omega) (zero3 w6); rw [← HZE.out] at hlk; clear a1 a2 a3 HV HP))
       exact ⟨⟨q + 1, p1, r2, t2, by have := HIE.out; go_num, rfl, by have := HIE.out; omega, HS2, ⟨HW.out.grown HG6.out hne⟩, HV6, HP6, HO, ⟨HM.out.kept HG6.out (fun e => HMG.out (Option.some.inj e))⟩, ⟨(HG6.out.block _ (blk_lt HX.out) (fun e => HGB.out (Option.some.inj e))).trans HX.out⟩, ⟨World.grownBy.trans HG.out HG6.out⟩⟩, by simp [intOf]; omega⟩
    ·have eq : lo + q = hi := by omega
     have eqt : q = hi - lo := by omega
     have HS2 : Aside0 (closeF r lo hi = (r1, t1)) := ⟨by rw [HCF.out, ← eqt]; exact HS.out⟩
     rw [eq]
     clear eqt
     go_wp2_with fail
     go_ret
     exact ⟨by rw [HS2.out]; rfl, p, HV.out, by rw [HS2.out]; exact HP.out, HG.out⟩
end Go.Proofs.Ytohhobcipfmkbaa.CFin
end
