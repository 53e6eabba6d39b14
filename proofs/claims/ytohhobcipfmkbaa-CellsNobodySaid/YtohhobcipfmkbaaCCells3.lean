/- Cells.Ahead, Behind, At, Text: walked. -/
import Derived.Test.YtohhobcipfmkbaaCCells2
namespace Go.Proofs.Ytohhobcipfmkbaa.Cel
open Go.RowKit Go.Proofs.YtohhobcipfmkbaaW.PrintWords Go.Proofs.YtohhobcipfmkbaaW.PrintMore Go.Proofs.YtohhobcipfmkbaaW.PrintLast Go.Proofs.Ytohhobcipfmkbaa.U Go.Proofs.Ytohhobcipfmkbaa.PClusterFinest
set_option linter.unusedVariables false
set_option linter.unusedSimpArgs false
theorem two_slk {w : World} {g : Nat} {vx vy : Value} {x y : List Int} (h : w.heap[g]? = some (.cells #[vx, vy] 31 (0, 0))) (hx : SL w vx x) (hy : SL w vy y) : SLk (Kd.slice 3 (Kd.int .i64)) w (.slice (some ⟨g, 0, none⟩) 2 2) [x, y] := by
  obtain ⟨A, c, rfl, hc, hC⟩ := hx
  obtain ⟨B, d, rfl, hd, hD⟩ := hy
  refine ⟨_, _, rfl, Nat.le_refl _, rfl, by simp, fun _ => ⟨_, rfl, fun j p hj => ?_⟩⟩
  match j, hj with
  | 0, hj =>
    obtain rfl := Option.some.inj hj
    refine ⟨_, rfl, ⟨A, c, rfl, hc, hC⟩, fun k u hu => ?_⟩
    cases k with
    | zero => rw [add_plain, blk_cell h]; exact hu
    | succ k => simp at hu
  | 1, hj =>
    obtain rfl := Option.some.inj hj
    refine ⟨_, rfl, ⟨B, d, rfl, hd, hD⟩, fun k u hu => ?_⟩
    cases k with
    | zero => rw [add_plain, blk_cell h]; exact hu
    | succ k => simp at hu
set_option maxRecDepth 100000 in
set_option maxHeartbeats 4000000 in
theorem ahead_nil (v : Value) {w : World} : Calls Try.prog 25 #[.pointer none, v] w fun e w' => e = .returned (.int .i64 1) ∧ Below w.heap.size w w' := by
  go_enter Try.func25, Try.ntmps25
  go_wp2
  go_ret
  exact ⟨rfl, Below.refl _ _⟩
set_option maxRecDepth 100000 in
set_option maxHeartbeats 4000000 in
theorem ahead_bad {w : World} {D : Nat → Prop} {b : Nat} {J : List S33} (h : CellsAt 51 w D b [] J) (v : Value) : Calls Try.prog 25 #[ptr b, v] w fun e w' => e = .returned (.int .i64 1) ∧ Below w.heap.size w w' := by
  obtain ⟨Dr, Dt, A, c, vt, hp⟩ := h.open_
  have c0 := (blk_cell hp.h1 0).trans rfl
  clear h hp
  go_enter Try.func25, Try.ntmps25
  go_wp2
  go_ret
  exact ⟨rfl, Below.refl _ _⟩
set_option maxRecDepth 100000 in
set_option maxHeartbeats 4000000 in
theorem behind_nil (v : Value) {w : World} : Calls Try.prog 26 #[.pointer none, v] w fun e w' => e = .returned (.int .i64 1) ∧ Below w.heap.size w w' := by
  go_enter Try.func26, Try.ntmps26
  go_wp2
  go_ret
  exact ⟨rfl, Below.refl _ _⟩
set_option maxRecDepth 100000 in
set_option maxHeartbeats 4000000 in
theorem behind_bad {w : World} {D : Nat → Prop} {b : Nat} {J : List S33} (h : CellsAt 51 w D b [] J) (v : Value) : Calls Try.prog 26 #[ptr b, v] w fun e w' => e = .returned (.int .i64 1) ∧ Below w.heap.size w w' := by
  obtain ⟨Dr, Dt, A, c, vt, hp⟩ := h.open_
  have c0 := (blk_cell hp.h1 0).trans rfl
  clear h hp
  go_enter Try.func26, Try.ntmps26
  go_wp2
  go_ret
  exact ⟨rfl, Below.refl _ _⟩
set_option maxRecDepth 100000 in
set_option maxHeartbeats 4000000 in
theorem ahead_c {w : World} {D : Nat → Prop} {b : Nat} {L : List (List Int)} {J : List S33} (h : CellsAt 51 w D b L J) (hl : 0 < L.length) (hl8 : L.length ≤ 100000000) {v : Value} {x : List Int} (hx : SL w v x) (hm : x.length + (L[0]'(by omega)).length ≤ 1000000) :
    Calls Try.prog 25 #[ptr b, v] w fun e w' => e = .returned (.int .i64 0) ∧ CellsAt 51 w' (fun q => D q ∨ w.heap.size ≤ q) b (L.set (0) (x ++ L[0]'(by omega))) J ∧ Eff w w' D := by
  obtain ⟨k, hk⟩ : ∃ k, k = 0 := ⟨_, rfl⟩
  have hkl : k < L.length := by omega
  obtain ⟨y, hy⟩ : ∃ y, y = L[k] := ⟨_, rfl⟩
  have hyy : L[0]'(by omega) = y := by subst hk; exact hy.symm
  rw [hyy] at hm ⊢
  rw [← hk]
  obtain ⟨Dr, Dt, A, c, vt, hp⟩ := h.open_
  obtain ⟨g, cap, cells, e, hg, hlt, hblk⟩ := hp.h2.form hl
  injection e with e1 e2 e3
  subst e1
  subst e3
  obtain ⟨hd, z0, z1, z2⟩ := hp.h2.cell k hkl
  rw [← hy] at z2
  obtain ⟨Ay, cy, ey, _, _⟩ := z2.1
  rw [ey] at z0 z2
  obtain ⟨Ax, cx, rfl, hcx, hCx⟩ := hx
  have HX : Aside0 (SL w (.slice Ax x.length cx) x) := ⟨⟨Ax, cx, rfl, hcx, hCx⟩⟩
  have HY := Aside0.mk z2.1
  have c0 := (blk_cell hp.h1 0).trans rfl
  have HP := Aside0.mk hp
  have HM := Aside0.mk hm
  have HK := Aside0.mk hkl
  have hkI : (k : Int) < (L.length : Int) := by omega
  have hlI : (0 : Int) < (L.length : Int) := by omega
  have hl0 : ¬ (L.length : Int) = 0 := by omega
  have hk0 : 0 ≤ (k : Int) := by omega
  have etk : (k : Int).toNat = k := Int.toNat_natCast _
  have HKE := Aside0.mk hk
  subst hk
  have HKZ : Aside0 True := ⟨trivial⟩
  clear h hp hm hg hblk hlt hkl hy hyy z1 z2 hcx hCx ey
  go_enter Try.func25, Try.ntmps25
  go_upto_region 3 with (fail)
  have HBD : Aside0 (Below w.heap.size w w.drew) := ⟨below_drew (Below.refl _ _)⟩
  refine start_ (n := 15) (S := (fun W => Below w.heap.size w W)) (ds := [14]) #[false, false, false, false, false, false, false, false, false, false, false, false, false, false, false] (by kernel_rfl) (by kernel_rfl) (by rfl) HBD.out (fun hS0 => ?_)
  refine pure_ (i := 0) (N := (some 15)) (v := ?_) (a' := ?_) #[true, false, false, false, false, false, false, false, false, false, false, false, false, false, false] rfl rfl (by kernel_rfl) (fun _ _ _ h => h) (Or.inl ⟨by rfl, ?_⟩) ?_ ?_
  rotate_left
  · intro w'
    go_simp
    with_reducible rfl
  rotate_left
  · simp only [Act.put, List.setIfInBounds_toArray, List.set_cons_zero, List.set_cons_succ]
    rfl
  refine pure_ (i := 1) (N := (some 16)) (v := ?_) (a' := ?_) #[true, true, false, false, false, false, false, false, false, false, false, false, false, false, false] rfl rfl (by kernel_rfl) (fun _ _ _ h => h) (Or.inl ⟨by rfl, ?_⟩) ?_ ?_
  rotate_left
  · intro w'
    go_simp
    with_reducible rfl
  rotate_left
  · simp only [Act.put, List.setIfInBounds_toArray, List.set_cons_zero, List.set_cons_succ]
    rfl
  refine pure_ (i := 2) (N := (some 17)) (v := ?_) (a' := ?_) #[true, true, true, false, false, false, false, false, false, false, false, false, false, false, false] rfl rfl (by kernel_rfl) (fun _ _ _ h => h) (Or.inl ⟨by rfl, ?_⟩) ?_ ?_
  rotate_left
  · intro w'
    go_simp
    with_reducible rfl
  rotate_left
  · simp only [Act.put, List.setIfInBounds_toArray, List.set_cons_zero, List.set_cons_succ]
    rfl
  refine take_ (i := 3) (N := (some 18)) (v := ?_) (a' := ?_) #[true, true, true, true, false, false, false, false, false, false, false, false, false, false, false] rfl rfl (by kernel_rfl) (fun _ _ _ h => h) (Or.inl ⟨by rfl, ?_⟩) hS0 ?_ ?_
  rotate_left
  · intro w' s0
    have hx0 := (s0.cell (World.block_lt_of_cell? _ _ c0)).trans c0
    go_simp
    with_reducible rfl
  rotate_left
  · simp only [Act.put, List.setIfInBounds_toArray, List.set_cons_zero, List.set_cons_succ]
    rfl
  refine pure_ (i := 4) (N := (some 19)) (v := ?_) (a' := ?_) #[true, true, true, true, true, false, false, false, false, false, false, false, false, false, false] rfl rfl (by kernel_rfl) (fun _ _ _ h => h) (Or.inl ⟨by rfl, ?_⟩) ?_ ?_
  rotate_left
  · intro w'
    go_simp
    with_reducible rfl
  rotate_left
  · simp only [Act.put, List.setIfInBounds_toArray, List.set_cons_zero, List.set_cons_succ]
    rfl
  refine pure_ (i := 5) (N := (some 20)) (v := ?_) (a' := ?_) #[true, true, true, true, true, true, false, false, false, false, false, false, false, false, false] rfl rfl (by kernel_rfl) (fun _ _ _ h => h) (Or.inl ⟨by rfl, ?_⟩) ?_ ?_
  rotate_left
  · intro w'
    go_simp
    with_reducible rfl
  rotate_left
  · simp only [Act.put, List.setIfInBounds_toArray, List.set_cons_zero, List.set_cons_succ]
    rfl
  refine pure_ (i := 6) (N := (some 21)) (v := ?_) (a' := ?_) #[true, true, true, true, true, true, true, false, false, false, false, false, false, false, false] rfl rfl (by kernel_rfl) (fun _ _ _ h => h) (Or.inl ⟨by rfl, ?_⟩) ?_ ?_
  rotate_left
  · intro w'
    go_simp
    with_reducible rfl
  rotate_left
  · simp only [Act.put, List.setIfInBounds_toArray, List.set_cons_zero, List.set_cons_succ]
    rfl
  refine pure_ (i := 7) (N := (some 22)) (v := ?_) (a' := ?_) #[true, true, true, true, true, true, true, true, false, false, false, false, false, false, false] rfl rfl (by kernel_rfl) (fun _ _ _ h => h) (Or.inl ⟨by rfl, ?_⟩) ?_ ?_
  rotate_left
  · intro w'
    go_simp
    with_reducible rfl
  rotate_left
  · simp only [Act.put, List.setIfInBounds_toArray, List.set_cons_zero, List.set_cons_succ]
    rfl
  refine take_ (i := 8) (N := (some 23)) (v := ?_) (a' := ?_) #[true, true, true, true, true, true, true, true, true, false, false, false, false, false, false] rfl rfl (by kernel_rfl) (fun _ _ _ h => h) (Or.inl ⟨by rfl, ?_⟩) hS0 ?_ ?_
  rotate_left
  · intro w' s0
    have hx0 := (s0.cell (World.block_lt_of_cell? _ _ c0)).trans c0
    go_simp
    with_reducible rfl
  rotate_left
  · simp only [Act.put, List.setIfInBounds_toArray, List.set_cons_zero, List.set_cons_succ]
    rfl
  refine pure_ (i := 9) (N := (some 24)) (v := ?_) (a' := ?_) #[true, true, true, true, true, true, true, true, true, true, false, false, false, false, false] rfl rfl (by kernel_rfl) (fun _ _ _ h => h) (Or.inl ⟨by rfl, ?_⟩) ?_ ?_
  rotate_left
  · intro w'
    go_simp
    with_reducible rfl
  rotate_left
  · simp only [Act.put, List.setIfInBounds_toArray, List.set_cons_zero, List.set_cons_succ]
    rfl
  refine take_ (i := 10) (N := (some 25)) (v := ?_) (a' := ?_) #[true, true, true, true, true, true, true, true, true, true, true, false, false, false, false] rfl rfl (by kernel_rfl) (fun _ _ _ h => h) (Or.inl ⟨by rfl, ?_⟩) hS0 ?_ ?_
  rotate_left
  · intro w' s0
    have hx0 := (s0.cell (World.block_lt_of_cell? _ _ z0)).trans z0
    go_simp
    with_reducible rfl
  rotate_left
  · simp only [Act.put, List.setIfInBounds_toArray, List.set_cons_zero, List.set_cons_succ]
    rfl
  clear hS0
  refine one_ (i := 11) (N := (some 26)) #[true, true, true, true, true, true, true, true, true, true, true, true, false, false, false] rfl rfl (by kernel_rfl) (by decide) (fun K hK => ?_)
  obtain ⟨wA, ewA⟩ : ∃ W, W = w.drew.alloc (.cells #[.slice Ax x.length cx, .slice Ay y.length cy] 31 (0, 0)) := ⟨_, rfl⟩
  obtain ⟨ga, hga⟩ : ∃ ga, ga = w.drew.heap.size := ⟨_, rfl⟩
  have HBA : Aside0 (Below w.heap.size w wA) := ⟨by rw [ewA]; exact below_alloc HBD.out _⟩
  have HXA : Aside0 (wA.heap[ga]? = some (.cells #[.slice Ax x.length cx, .slice Ay y.length cy] 31 (0, 0))) := ⟨by rw [ewA, hga]; exact (MapKept.heap_alloc w.drew _).1⟩
  refine value_ (w1 := wA) (v := .slice (some ⟨ga, 0, none⟩) 2 2) (by rfl) rfl (by rw [ewA, hga]; go_simp) ?_
  clear ewA hga
  change K (Act.put _ (some 26) _) _
  refine hK.out _ _ HBA.out (fun hS0 => ?_)
  clear hK
  refine norm_ (a' := ?_) ?_ ?_
  rotate_left
  · simp only [Act.put, List.setIfInBounds_toArray, List.set_cons_zero, List.set_cons_succ]
    rfl
  clear hS0
  refine one_ (i := 12) (N := (some 27)) #[true, true, true, true, true, true, true, true, true, true, true, true, true, false, false] rfl rfl (by kernel_rfl) (by decide) (fun K hK => ?_)
  refine goes_ Try.func47 (by kernel_rfl) rfl #[.slice (some ⟨ga, 0, none⟩) 2 2] (by rfl) rfl rfl (by go_simp; done) ?_
  refine (concat_c (two_slk HXA.out (SLk.below HX.out HBA.out) (SLk.below HY.out HBA.out)) (by simp) (by simp only [List.flatten_cons, List.flatten_nil, List.append_nil, List.length_append]; have := HM.out; omega)).mono ?_
  rintro e w2 ⟨u, rfl, hR, hb2⟩
  rw [show [x, y].flatten = x ++ y by simp] at hR
  obtain ⟨AU, cu, eu⟩ := Kd.R_slice hR
  subst eu
  refine ⟨_, rfl, ?_⟩
  have HU : Aside0 (SLD w2 (fun q => w.heap.size ≤ q) (.slice AU (x ++ y).length cu) (x ++ y)) := ⟨SLD.of_R (Kd.R_mono (Kd.R_bound hR) (fun q hq => Nat.le_trans HBA.out.size hq.2.1))⟩
  have HB2 : Aside0 (Below w.heap.size w w2) := ⟨below_step HBA.out hb2⟩
  clear hR hb2
  change K (Act.put _ (some 27) _) _
  refine hK.out _ _ HB2.out (fun hS0 => ?_)
  clear hK
  refine norm_ (a' := ?_) ?_ ?_
  rotate_left
  · simp only [Act.put, List.setIfInBounds_toArray, List.set_cons_zero, List.set_cons_succ]
    rfl
  obtain ⟨hd2, y0, y1, -⟩ := (HP.out.below HB2.out).h2.cell 0 HK.out
  refine pure_ (i := 13) (N := (some 28)) (v := ?_) (a' := ?_) #[true, true, true, true, true, true, true, true, true, true, true, true, true, true, false] rfl rfl (by kernel_rfl) (fun _ _ _ h => h) (Or.inl ⟨by rfl, ?_⟩) ?_ ?_
  rotate_left
  · intro w'
    go_simp
    with_reducible rfl
  rotate_left
  · simp only [Act.put, List.setIfInBounds_toArray, List.set_cons_zero, List.set_cons_succ]
    rfl
  clear hS0
  refine last_ (i := 14) (N := none) #[true, true, true, true, true, true, true, true, true, true, true, true, true, true, true] rfl rfl (by kernel_rfl) (by decide) (fun K hK => ?_)
  refine skip_ (w1 := w2.setCell ⟨g, 0, none⟩ (.slice AU (x ++ y).length cu)) (by rfl) rfl (by go_simp) ?_
  refine hK.out _ _ ?_
  clear hK
  refine done_ (by kernel_rfl) ?_
  go_wp2
  go_ret
  obtain ⟨q1, _, q3⟩ := HP.out.put HB2.out 0 HK.out HU.out
  rw [List.length_append] at q1 q3
  exact ⟨rfl, q1, q3⟩
set_option maxRecDepth 100000 in
set_option maxHeartbeats 4000000 in
theorem behind_c {w : World} {D : Nat → Prop} {b : Nat} {L : List (List Int)} {J : List S33} (h : CellsAt 51 w D b L J) (hl : 0 < L.length) (hl8 : L.length ≤ 100000000) {v : Value} {x : List Int} (hx : SL w v x) (hm : x.length + (L[L.length - 1]'(by omega)).length ≤ 1000000) :
    Calls Try.prog 26 #[ptr b, v] w fun e w' => e = .returned (.int .i64 0) ∧ CellsAt 51 w' (fun q => D q ∨ w.heap.size ≤ q) b (L.set (L.length - 1) (L[L.length - 1]'(by omega) ++ x)) J ∧ Eff w w' D := by
  obtain ⟨k, hk⟩ : ∃ k, k = L.length - 1 := ⟨_, rfl⟩
  have hkl : k < L.length := by omega
  obtain ⟨y, hy⟩ : ∃ y, y = L[k] := ⟨_, rfl⟩
  have hyy : L[L.length - 1]'(by omega) = y := by subst hk; exact hy.symm
  rw [hyy] at hm ⊢
  rw [← hk]
  obtain ⟨Dr, Dt, A, c, vt, hp⟩ := h.open_
  obtain ⟨g, cap, cells, e, hg, hlt, hblk⟩ := hp.h2.form hl
  injection e with e1 e2 e3
  subst e1
  subst e3
  obtain ⟨hd, z0, z1, z2⟩ := hp.h2.cell k hkl
  rw [← hy] at z2
  obtain ⟨Ay, cy, ey, _, _⟩ := z2.1
  rw [ey] at z0 z2
  obtain ⟨Ax, cx, rfl, hcx, hCx⟩ := hx
  have HX : Aside0 (SL w (.slice Ax x.length cx) x) := ⟨⟨Ax, cx, rfl, hcx, hCx⟩⟩
  have HY := Aside0.mk z2.1
  have c0 := (blk_cell hp.h1 0).trans rfl
  have HP := Aside0.mk hp
  have HM := Aside0.mk hm
  have HK := Aside0.mk hkl
  have hkI : (k : Int) < (L.length : Int) := by omega
  have hlI : (0 : Int) < (L.length : Int) := by omega
  have hl0 : ¬ (L.length : Int) = 0 := by omega
  have hk0 : 0 ≤ (k : Int) := by omega
  have etk : (k : Int).toNat = k := Int.toNat_natCast _
  have HKE := Aside0.mk hk
  have ek : IntKind.i64.wrap ((L.length : Int) - 1) = (k : Int) := by rw [IntWalk.i64_in _ (by omega)]; omega
  clear h hp hm hg hblk hlt hkl hy hyy z1 z2 hcx hCx ey hk
  go_enter Try.func26, Try.ntmps26
  go_upto_region 4 with (fail)
  have HBD : Aside0 (Below w.heap.size w w.drew) := ⟨below_drew (Below.refl _ _)⟩
  refine start_ (n := 17) (S := (fun W => Below w.heap.size w W)) (ds := [16]) #[false, false, false, false, false, false, false, false, false, false, false, false, false, false, false, false, false] (by kernel_rfl) (by kernel_rfl) (by rfl) HBD.out (fun hS0 => ?_)
  refine pure_ (i := 0) (N := (some 22)) (v := ?_) (a' := ?_) #[true, false, false, false, false, false, false, false, false, false, false, false, false, false, false, false, false] rfl rfl (by kernel_rfl) (fun _ _ _ h => h) (Or.inl ⟨by rfl, ?_⟩) ?_ ?_
  rotate_left
  · intro w'
    go_simp
    with_reducible rfl
  rotate_left
  · simp only [Act.put, List.setIfInBounds_toArray, List.set_cons_zero, List.set_cons_succ]
    rfl
  refine pure_ (i := 1) (N := (some 23)) (v := ?_) (a' := ?_) #[true, true, false, false, false, false, false, false, false, false, false, false, false, false, false, false, false] rfl rfl (by kernel_rfl) (fun _ _ _ h => h) (Or.inl ⟨by rfl, ?_⟩) ?_ ?_
  rotate_left
  · intro w'
    go_simp
    with_reducible rfl
  rotate_left
  · simp only [Act.put, List.setIfInBounds_toArray, List.set_cons_zero, List.set_cons_succ]
    rfl
  refine pure_ (i := 2) (N := (some 24)) (v := ?_) (a' := ?_) #[true, true, true, false, false, false, false, false, false, false, false, false, false, false, false, false, false] rfl rfl (by kernel_rfl) (fun _ _ _ h => h) (Or.inl ⟨by rfl, ?_⟩) ?_ ?_
  rotate_left
  · intro w'
    go_simp
    with_reducible rfl
  rotate_left
  · simp only [Act.put, List.setIfInBounds_toArray, List.set_cons_zero, List.set_cons_succ]
    rfl
  refine take_ (i := 3) (N := (some 25)) (v := ?_) (a' := ?_) #[true, true, true, true, false, false, false, false, false, false, false, false, false, false, false, false, false] rfl rfl (by kernel_rfl) (fun _ _ _ h => h) (Or.inl ⟨by rfl, ?_⟩) hS0 ?_ ?_
  rotate_left
  · intro w' s0
    have hx0 := (s0.cell (World.block_lt_of_cell? _ _ c0)).trans c0
    go_simp
    with_reducible rfl
  rotate_left
  · simp only [Act.put, List.setIfInBounds_toArray, List.set_cons_zero, List.set_cons_succ]
    rfl
  refine pure_ (i := 4) (N := (some 26)) (v := ?_) (a' := ?_) #[true, true, true, true, true, false, false, false, false, false, false, false, false, false, false, false, false] rfl rfl (by kernel_rfl) (fun _ _ _ h => h) (Or.inl ⟨by rfl, ?_⟩) ?_ ?_
  rotate_left
  · intro w'
    go_simp
    with_reducible rfl
  rotate_left
  · simp only [Act.put, List.setIfInBounds_toArray, List.set_cons_zero, List.set_cons_succ]
    rfl
  refine pure_ (i := 5) (N := (some 27)) (v := ?_) (a' := ?_) #[true, true, true, true, true, true, false, false, false, false, false, false, false, false, false, false, false] rfl rfl (by kernel_rfl) (fun _ _ _ h => h) (Or.inl ⟨by rfl, ?_⟩) ?_ ?_
  rotate_left
  · intro w'
    go_simp
    with_reducible rfl
  rotate_left
  · simp only [Act.put, List.setIfInBounds_toArray, List.set_cons_zero, List.set_cons_succ]
    rfl
  refine pure_ (i := 6) (N := (some 28)) (v := ?_) (a' := ?_) #[true, true, true, true, true, true, true, false, false, false, false, false, false, false, false, false, false] rfl rfl (by kernel_rfl) (fun _ _ _ h => h) (Or.inl ⟨by rfl, ?_⟩) ?_ ?_
  rotate_left
  · intro w'
    go_simp
    with_reducible rfl
  rotate_left
  · simp only [Act.put, List.setIfInBounds_toArray, List.set_cons_zero, List.set_cons_succ]
    rfl
  refine pure_ (i := 7) (N := (some 29)) (v := ?_) (a' := ?_) #[true, true, true, true, true, true, true, true, false, false, false, false, false, false, false, false, false] rfl rfl (by kernel_rfl) (fun _ _ _ h => h) (Or.inl ⟨by rfl, ?_⟩) ?_ ?_
  rotate_left
  · intro w'
    go_simp
    with_reducible rfl
  rotate_left
  · simp only [Act.put, List.setIfInBounds_toArray, List.set_cons_zero, List.set_cons_succ]
    rfl
  refine take_ (i := 8) (N := (some 30)) (v := ?_) (a' := ?_) #[true, true, true, true, true, true, true, true, true, false, false, false, false, false, false, false, false] rfl rfl (by kernel_rfl) (fun _ _ _ h => h) (Or.inl ⟨by rfl, ?_⟩) hS0 ?_ ?_
  rotate_left
  · intro w' s0
    have hx0 := (s0.cell (World.block_lt_of_cell? _ _ c0)).trans c0
    go_simp
    with_reducible rfl
  rotate_left
  · simp only [Act.put, List.setIfInBounds_toArray, List.set_cons_zero, List.set_cons_succ]
    rfl
  refine pure_ (i := 9) (N := (some 31)) (v := ?_) (a' := ?_) #[true, true, true, true, true, true, true, true, true, true, false, false, false, false, false, false, false] rfl rfl (by kernel_rfl) (fun _ _ _ h => h) (Or.inl ⟨by rfl, ?_⟩) ?_ ?_
  rotate_left
  · intro w'
    go_simp
    with_reducible rfl
  rotate_left
  · simp only [Act.put, List.setIfInBounds_toArray, List.set_cons_zero, List.set_cons_succ]
    rfl
  refine pure_ (i := 10) (N := (some 32)) (v := ?_) (a' := ?_) #[true, true, true, true, true, true, true, true, true, true, true, false, false, false, false, false, false] rfl rfl (by kernel_rfl) (fun _ _ _ h => h) (Or.inl ⟨by rfl, ?_⟩) ?_ ?_
  rotate_left
  · intro w'
    go_simp
    with_reducible rfl
  rotate_left
  · simp only [Act.put, List.setIfInBounds_toArray, List.set_cons_zero, List.set_cons_succ]
    rfl
  refine take_ (i := 11) (N := (some 33)) (v := ?_) (a' := ?_) #[true, true, true, true, true, true, true, true, true, true, true, true, false, false, false, false, false] rfl rfl (by kernel_rfl) (fun _ _ _ h => h) (Or.inl ⟨by rfl, ?_⟩) hS0 ?_ ?_
  rotate_left
  · intro w' s0
    have hx0 := (s0.cell (World.block_lt_of_cell? _ _ z0)).trans z0
    go_simp
    with_reducible rfl
  rotate_left
  · simp only [Act.put, List.setIfInBounds_toArray, List.set_cons_zero, List.set_cons_succ]
    rfl
  refine pure_ (i := 12) (N := (some 34)) (v := ?_) (a' := ?_) #[true, true, true, true, true, true, true, true, true, true, true, true, true, false, false, false, false] rfl rfl (by kernel_rfl) (fun _ _ _ h => h) (Or.inl ⟨by rfl, ?_⟩) ?_ ?_
  rotate_left
  · intro w'
    go_simp
    with_reducible rfl
  rotate_left
  · simp only [Act.put, List.setIfInBounds_toArray, List.set_cons_zero, List.set_cons_succ]
    rfl
  clear hS0
  refine one_ (i := 13) (N := (some 35)) #[true, true, true, true, true, true, true, true, true, true, true, true, true, true, false, false, false] rfl rfl (by kernel_rfl) (by decide) (fun K hK => ?_)
  obtain ⟨wA, ewA⟩ : ∃ W, W = w.drew.alloc (.cells #[.slice Ay y.length cy, .slice Ax x.length cx] 31 (0, 0)) := ⟨_, rfl⟩
  obtain ⟨ga, hga⟩ : ∃ ga, ga = w.drew.heap.size := ⟨_, rfl⟩
  have HBA : Aside0 (Below w.heap.size w wA) := ⟨by rw [ewA]; exact below_alloc HBD.out _⟩
  have HXA : Aside0 (wA.heap[ga]? = some (.cells #[.slice Ay y.length cy, .slice Ax x.length cx] 31 (0, 0))) := ⟨by rw [ewA, hga]; exact (MapKept.heap_alloc w.drew _).1⟩
  refine value_ (w1 := wA) (v := .slice (some ⟨ga, 0, none⟩) 2 2) (by rfl) rfl (by rw [ewA, hga]; go_simp) ?_
  clear ewA hga
  change K (Act.put _ (some 35) _) _
  refine hK.out _ _ HBA.out (fun hS0 => ?_)
  clear hK
  refine norm_ (a' := ?_) ?_ ?_
  rotate_left
  · simp only [Act.put, List.setIfInBounds_toArray, List.set_cons_zero, List.set_cons_succ]
    rfl
  clear hS0
  refine one_ (i := 14) (N := (some 36)) #[true, true, true, true, true, true, true, true, true, true, true, true, true, true, true, false, false] rfl rfl (by kernel_rfl) (by decide) (fun K hK => ?_)
  refine goes_ Try.func47 (by kernel_rfl) rfl #[.slice (some ⟨ga, 0, none⟩) 2 2] (by rfl) rfl rfl (by go_simp; done) ?_
  refine (concat_c (two_slk HXA.out (SLk.below HY.out HBA.out) (SLk.below HX.out HBA.out)) (by simp) (by simp only [List.flatten_cons, List.flatten_nil, List.append_nil, List.length_append]; have := HM.out; omega)).mono ?_
  rintro e w2 ⟨u, rfl, hR, hb2⟩
  rw [show [y, x].flatten = y ++ x by simp] at hR
  obtain ⟨AU, cu, eu⟩ := Kd.R_slice hR
  subst eu
  refine ⟨_, rfl, ?_⟩
  have HU : Aside0 (SLD w2 (fun q => w.heap.size ≤ q) (.slice AU (y ++ x).length cu) (y ++ x)) := ⟨SLD.of_R (Kd.R_mono (Kd.R_bound hR) (fun q hq => Nat.le_trans HBA.out.size hq.2.1))⟩
  have HB2 : Aside0 (Below w.heap.size w w2) := ⟨below_step HBA.out hb2⟩
  clear hR hb2
  change K (Act.put _ (some 36) _) _
  refine hK.out _ _ HB2.out (fun hS0 => ?_)
  clear hK
  refine norm_ (a' := ?_) ?_ ?_
  rotate_left
  · simp only [Act.put, List.setIfInBounds_toArray, List.set_cons_zero, List.set_cons_succ]
    rfl
  obtain ⟨hd2, y0, y1, -⟩ := (HP.out.below HB2.out).h2.cell k HK.out
  refine pure_ (i := 15) (N := (some 37)) (v := ?_) (a' := ?_) #[true, true, true, true, true, true, true, true, true, true, true, true, true, true, true, true, false] rfl rfl (by kernel_rfl) (fun _ _ _ h => h) (Or.inl ⟨by rfl, ?_⟩) ?_ ?_
  rotate_left
  · intro w'
    go_simp
    with_reducible rfl
  rotate_left
  · simp only [Act.put, List.setIfInBounds_toArray, List.set_cons_zero, List.set_cons_succ]
    rfl
  clear hS0
  refine last_ (i := 16) (N := none) #[true, true, true, true, true, true, true, true, true, true, true, true, true, true, true, true, true] rfl rfl (by kernel_rfl) (by decide) (fun K hK => ?_)
  refine skip_ (w1 := w2.setCell ⟨g, k, none⟩ (.slice AU (y ++ x).length cu)) (by rfl) rfl (by go_simp) ?_
  refine hK.out _ _ ?_
  clear hK
  refine done_ (by kernel_rfl) ?_
  go_wp2
  go_ret
  obtain ⟨q1, _, q3⟩ := HP.out.put HB2.out k HK.out HU.out
  rw [List.length_append] at q1 q3
  exact ⟨rfl, q1, q3⟩
set_option maxRecDepth 100000 in
set_option maxHeartbeats 4000000 in
theorem text_nil {w : World} : Calls Try.prog 17 #[.pointer none] w fun e w' => e = .returned (.slice none 0 0) ∧ Below w.heap.size w w' := by
  go_enter Try.func17, Try.ntmps17
  go_wp2
  go_ret
  exact ⟨rfl, Below.refl _ _⟩
set_option maxRecDepth 100000 in
set_option maxHeartbeats 4000000 in
theorem text_c {w : World} {D : Nat → Prop} {b : Nat} {L : List (List Int)} {J : List S33} (h : CellsAt 51 w D b L J) (hl8 : L.length ≤ 100000000) (hf : L.flatten.length ≤ 10000000) :
    Calls Try.prog 17 #[ptr b] w fun e w' => ∃ u, e = .returned u ∧ Kd.R (Kd.int .i64) 3 w' w.heap.size (fun _ => True) u L.flatten ∧ Below w.heap.size w w' := by
  obtain ⟨Dr, Dt, A, c, vt, hp⟩ := h.open_
  have c0 := (blk_cell hp.h1 0).trans rfl
  have HR := Aside0.mk (hp.h2.reads 3)
  have HL := Aside0.mk hl8
  have HF := Aside0.mk hf
  clear h hp hl8 hf
  go_enter Try.func17, Try.ntmps17
  go_wp2_with (go_at_call 47; refine (concat_c HR.out HL.out HF.out).mono ?_; rintro e w1 ⟨u, rfl, hu, hb⟩; have HU := Aside0.mk hu; have HB := Aside0.mk hb; clear hu hb)
  go_ret
  exact ⟨_, rfl, HU.out, HB.out⟩
set_option maxRecDepth 100000 in
set_option maxHeartbeats 4000000 in
theorem at_nil (at_ : Int) {w : World} : Calls Try.prog 19 #[.pointer none, .int .i64 at_] w fun e w' => e = .returned (.slice none 0 0) ∧ Below w.heap.size w w' := by
  go_enter Try.func19, Try.ntmps19
  go_wp2
  go_ret
  exact ⟨rfl, Below.refl _ _⟩
set_option maxRecDepth 100000 in
set_option maxHeartbeats 4000000 in
theorem at_bad {w : World} {D : Nat → Prop} {b : Nat} {L : List (List Int)} {J : List S33} (h : CellsAt 51 w D b L J) (at_ : Int) (hat : ¬ (0 ≤ at_ ∧ at_ < (L.length : Int))) : Calls Try.prog 19 #[ptr b, .int .i64 at_] w fun e w' => e = .returned (.slice none 0 0) ∧ Below w.heap.size w w' := by
  obtain ⟨Dr, Dt, A, c, vt, hp⟩ := h.open_
  have c0 := (blk_cell hp.h1 0).trans rfl
  have HD : Aside0 (decide (0 ≤ at_ ∧ at_ < (L.length : Int)) = false) := ⟨decide_eq_false hat⟩
  clear h hp hat
  go_enter Try.func19, Try.ntmps19
  go_wp2_with (go_at_call 48; refine (has_c A L.length c at_).mono ?_; rintro e w1 ⟨rfl, hb⟩; rw [HD.out]; have HB := Aside0.mk hb; clear hb)
  go_ret
  exact ⟨rfl, HB.out⟩
set_option maxRecDepth 100000 in
set_option maxHeartbeats 4000000 in
theorem at_c {w : World} {D : Nat → Prop} {b : Nat} {L : List (List Int)} {J : List S33} (h : CellsAt 51 w D b L J) (k : Nat) (hk : k < L.length) (hm : L[k].length ≤ 1000000) :
    Calls Try.prog 19 #[ptr b, .int .i64 k] w fun e w' => ∃ u, e = .returned u ∧ Kd.R (Kd.int .i64) 3 w' w.heap.size (fun _ => True) u L[k] ∧ Below w.heap.size w w' := by
  obtain ⟨y, hy⟩ : ∃ y, y = L[k] := ⟨_, rfl⟩
  rw [← hy] at hm ⊢
  obtain ⟨Dr, Dt, A, c, vt, hp⟩ := h.open_
  obtain ⟨g, cap, cells, e, hg, hlt, hblk⟩ := hp.h2.form (by omega)
  injection e with e1 e2 e3
  subst e1
  subst e3
  obtain ⟨hd, z0, z1, z2⟩ := hp.h2.cell k hk
  rw [← hy] at z2
  obtain ⟨Ay, cy, ey, _, _⟩ := z2.1
  rw [ey] at z0 z2
  have c0 := (blk_cell hp.h1 0).trans rfl
  have HD : Aside0 (decide (0 ≤ (k : Int) ∧ (k : Int) < (L.length : Int)) = true) := ⟨decide_eq_true (by omega)⟩
  have HY := Aside0.mk z2.1
  have HM := Aside0.mk hm
  have hkI : (k : Int) < (L.length : Int) := by omega
  have hk0 : 0 ≤ (k : Int) := by omega
  have etk : (k : Int).toNat = k := Int.toNat_natCast _
  have HC0 := Aside0.mk c0
  have HZ0 := Aside0.mk z0
  clear h hp hg hblk hlt hk hy z1 z2 ey hm z0
  go_enter Try.func19, Try.ntmps19
  go_wp2_with (first | (go_at_call 48; refine (has_c _ L.length c k).mono ?_; rintro e w1 ⟨rfl, hb⟩; rw [HD.out]; have HB := Aside0.mk hb; have c1 := (hb.cell (World.block_lt_of_cell? _ _ HC0.out)).trans HC0.out; have z1 := (hb.cell (World.block_lt_of_cell? _ _ HZ0.out)).trans HZ0.out; have HY1 := Aside0.mk (SLk.below HY.out hb); clear hb) | (go_at_call 42; refine (clone_c HY1.out HM.out).mono ?_; rintro e w2 ⟨u, rfl, hu, hb⟩; have HU := Aside0.mk (Kd.R_lower hu HB.out.size); have HB2 : Aside0 (Below w.heap.size w w2) := ⟨below_step HB.out hb⟩; clear hu hb))
  go_ret
  exact ⟨_, rfl, HU.out, HB2.out⟩
end Go.Proofs.Ytohhobcipfmkbaa.Cel
