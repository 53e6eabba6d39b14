/- WeakParts answers true: the law's own function, walked over the contracts of slices.Concat and weak.All. -/
import Derived.Test.YtfkgjoflekemaaaUWeak
import Derived.IntWalk
namespace Go.Proofs.Ytfkgjoflekemaaa
open Go.RowKit Go.Proofs.YtfkgjoflekemaaaW.PrintWords Go.Proofs.YtfkgjoflekemaaaW.PrintMore Go.Proofs.YtfkgjoflekemaaaW.PrintLast Go.Proofs.Ytfkgjoflekemaaa.U Go.Proofs.Ytfkgjoflekemaaa.CBase Go.Proofs.Ytfkgjoflekemaaa.CSlices Go.Proofs.Ytfkgjoflekemaaa.CWeak
set_option linter.unusedVariables false
set_option linter.unusedSimpArgs false

set_option maxRecDepth 100000 in
set_option maxHeartbeats 2000000 in
theorem parts_false (a b : List Int) (w : World) (va vb : Value) (ha : SL w va a) (hb : SL w vb b) (ga : a.length ≤ 150) (gb : b.length ≤ 150) :
    Calls Try.prog 11 #[va, vb, .bool false] w fun e w' => e = .returned (.bool true) ∧ Below w.heap.size w w' := by
  have HA := Aside0.mk ha
  have HB := Aside0.mk hb
  obtain ⟨A, ca, rfl, _, _⟩ := ha
  obtain ⟨B, cb, rfl, _, _⟩ := hb
  have a1 : decide (150 < (a.length : Int)) = false := decide_eq_false (by omega)
  have a2 : decide (150 < a.length) = false := decide_eq_false (by omega)
  have b1 : decide (150 < (b.length : Int)) = false := decide_eq_false (by omega)
  have b2 : decide (150 < b.length) = false := decide_eq_false (by omega)
  have hs : SLs ((w.alloc (.cells #[.int .i64 0] 3)).alloc (.cells #[.slice A a.length ca, .slice (some ⟨w.heap.size, 0, none⟩) 1 1, .slice B b.length cb] 22)) (.slice (some ⟨w.heap.size + 1, 0, none⟩) 3 3) [a, [0], b] := by
    have z0 : SL (w.alloc (.cells #[.int .i64 0] 3)) (.slice (some ⟨w.heap.size, 0, none⟩) 1 1) [0] := SL_lit w 3 [0] (by decide)
    have e1 : (w.alloc (.cells #[.int .i64 0] 3)).heap.size = w.heap.size + 1 := by simp
    have := SLs_lit (w.alloc (.cells #[.int .i64 0] 3)) 22 [.slice A a.length ca, .slice (some ⟨w.heap.size, 0, none⟩) 1 1, .slice B b.length cb] [a, [0], b] (by simp) (fun i x hx => by
      rcases i with _ | _ | _ | i
      · obtain rfl := Option.some.inj hx; exact ⟨_, rfl, SLk.alloc HA.out _⟩
      · obtain rfl := Option.some.inj hx; exact ⟨_, rfl, z0⟩
      · obtain rfl := Option.some.inj hx; exact ⟨_, rfl, SLk.alloc HB.out _⟩
      · simp at hx)
    rw [e1] at this
    exact this
  have HS := Aside0.mk hs
  have HL : Aside0 (a.length ≤ 150 ∧ b.length ≤ 150) := ⟨ga, gb⟩
  clear hs
  go_enter Try.func11, Try.ntmps11
  go_wp2_with fail
  refine (concat_c HS.out (by simp) (by simp [total]; omega)).mono ?_
  rintro e w1 ⟨u, rfl, hu, hb⟩
  have hbw : Below w.heap.size w w1 := below_step (below_alloc (below_alloc (Below.refl _ _) _) _) hb
  have hf : [a, [0], b].flatten = a ++ 0 :: b := by simp
  rw [hf] at hu
  have HU := Aside0.mk (SLk.of_R hu)
  have HW := Aside0.mk hbw
  have HAL := Aside0.mk (show (a ++ 0 :: b).length = a.length + 1 + b.length by simp; omega)
  clear hu hb hf hbw
  go_wp2_with fail
  refine (CWeak.all_c 0 HU.out (by have := HAL.out; omega)).mono ?_
  rintro e w2 ⟨u2, rfl, hu2, hb⟩
  rw [parts 0 (by decide) 0 a b] at hu2
  have hxl : (allW 0 a).length = a.length := t7_length 0 a
  have hyl : (allW 0 b).length = b.length := t7_length 0 b
  have HW2 := Aside0.mk (below_step HW.out hb)
  have HEX : ∃ x y : List Int, Aside0 (allW 0 a = x) ∧ Aside0 (allW 0 b = y) := ⟨_, _, ⟨rfl⟩, ⟨rfl⟩⟩
  obtain ⟨x, y, HX, HY⟩ := HEX
  rw [HX.out] at hu2 hxl
  rw [HY.out] at hu2 hyl
  obtain ⟨U2, cu2, rfl, hcu, hC2⟩ := hu2
  have hfl : (x ++ 0 :: y).length = a.length + 1 + b.length := by simp; omega
  have hxt : (x ++ 0 :: y).take a.length = x := by rw [← hxl, List.take_left']; rfl
  have hxd : (x ++ 0 :: y).drop (a.length + 1) = y := by rw [← hxl, List.drop_append]; simp
  have hat : rd (x ++ 0 :: y) (a.length : Int) = 0 := by rw [← hxl]; exact part_mid x y 0
  generalize (x ++ 0 :: y) = f at hC2 hcu hfl hxt hxd hat
  have HC2 := Aside0.mk hC2
  have hne : ((f.length : Int) != (a.length : Int) + 1 + (b.length : Int)) = false := by simp; omega
  obtain ⟨i0, hi0, _, hsz0, _⟩ := info_parts info3
  have hq1 : IntKind.i64.wrap ((a.length : Int) + 1) = (a.length : Int) + 1 := IntWalk.i64_in _ (by omega)
  have hq2 : IntKind.i64.wrap ((a.length : Int) + 1 + (b.length : Int)) = (a.length : Int) + 1 + (b.length : Int) := IntWalk.i64_in _ (by omega)
  have hcutT := cut_to (P := Try.prog) 22 3 .i64 Try.underlying22 hi0 U2 f.length cu2 (a.length : Int) (by omega) (by omega) hcu
  have hcutF := cut_from (P := Try.prog) 22 3 .i64 Try.underlying22 hi0 1 hsz0 U2 f.length cu2 ((a.length : Int) + 1) (by omega) (by omega)
  have hsT : SL w2 (.slice U2 (a.length : Int).toNat cu2) x := by
    have h1 := Kd.C_take (m := a.length) hC2 (by omega)
    rw [hxt] at h1
    rw [Int.toNat_natCast]
    exact ⟨U2, cu2, by rw [hxl], by omega, h1⟩
  have hsF : SL w2 (.slice (if cu2 = ((a.length : Int) + 1).toNat then U2 else U2.map (·.add (((a.length : Int) + 1).toNat * 1))) (f.length - ((a.length : Int) + 1).toNat) (cu2 - ((a.length : Int) + 1).toNat)) y := by
    rw [show ((a.length : Int) + 1).toNat = a.length + 1 by omega]
    have h1 := Kd.C_drop (m := a.length + 1) hC2 (by omega) hcu
    rw [hxd] at h1
    exact ⟨_, cu2 - (a.length + 1), by rw [show f.length - (a.length + 1) = y.length by omega]; rfl, by omega, h1⟩
  generalize (Value.slice (if cu2 = ((a.length : Int) + 1).toNat then U2 else U2.map (·.add (((a.length : Int) + 1).toNat * 1))) (f.length - ((a.length : Int) + 1).toNat) (cu2 - ((a.length : Int) + 1).toNat)) = VF at hcutF hsF
  generalize (Value.slice U2 (a.length : Int).toNat cu2) = VT at hcutT hsT
  have HT := Aside0.mk hsT
  have HF := Aside0.mk hsF
  obtain ⟨ad, ea, hct⟩ := Kd.at_int hC2 (a.length : Int) (by omega) (by omega)
  cases ea
  rw [hat] at hct
  simp only [Int.toNat_natCast] at hct
  have hctd : w2.drew.cell? (ad.add a.length) = some (.int .i64 0) := hct
  have hq3 : (a.length : Int) < (f.length : Int) := by omega
  have hq4 : decide ((a.length : Int) < (f.length : Int)) = true := decide_eq_true hq3
  have HFL := Aside0.mk hfl
  have HXL := Aside0.mk hxl
  have HYL := Aside0.mk hyl
  clear hb hsT hsF hat hxt hxd hfl hxl hyl hi0
  go_wp2_with fail
  have HWd : Aside0 (Below w.heap.size w w2.drew) := ⟨below_drew HW2.out⟩
  have HAd : Aside0 (SL w2.drew (.slice A a.length ca) a) := ⟨SLk.below HA.out HWd.out⟩
  have HBd : Aside0 (SL w2.drew (.slice B b.length cb) b) := ⟨SLk.below HB.out HWd.out⟩
  have HTd : Aside0 (SL w2.drew VT x) := ⟨SLk.below HT.out (below_drew (Below.refl _ _))⟩
  have HFd : Aside0 (SL w2.drew VF y) := ⟨SLk.below HF.out (below_drew (Below.refl _ _))⟩
  have HSd : Aside0 (Below w2.heap.size w2 w2.drew) := ⟨below_drew (Below.refl _ _)⟩
  refine start_ (n := 31) (S := fun W => Below w2.heap.size w2 W) (ds := []) #[false, false, false, false, false, false, false, false, false, false, false, false, false, false, false, false, false, false, false, false, false, false, false, false, false, false, false, false, false, false, false] (by kernel_rfl) (by kernel_rfl) (by rfl) HSd.out (fun hS0 => ?_)
  refine pure_ (i := 0) (N := (some 35)) (v := ?_) (a' := ?_) #[true, false, false, false, false, false, false, false, false, false, false, false, false, false, false, false, false, false, false, false, false, false, false, false, false, false, false, false, false, false, false] rfl rfl (by kernel_rfl) (fun _ _ _ h => h) (Or.inl ⟨by rfl, ?_⟩) ?_ ?_
  rotate_left
  · intro w'
    go_simp
    with_reducible rfl
  rotate_left
  · simp only [Act.put, List.setIfInBounds_toArray, List.set_cons_zero, List.set_cons_succ]
    rfl
  refine pure_ (i := 1) (N := (some 36)) (v := ?_) (a' := ?_) #[true, true, false, false, false, false, false, false, false, false, false, false, false, false, false, false, false, false, false, false, false, false, false, false, false, false, false, false, false, false, false] rfl rfl (by kernel_rfl) (fun _ _ _ h => h) (Or.inl ⟨by rfl, ?_⟩) ?_ ?_
  rotate_left
  · intro w'
    go_simp
    with_reducible rfl
  rotate_left
  · simp only [Act.put, List.setIfInBounds_toArray, List.set_cons_zero, List.set_cons_succ]
    rfl
  refine pure_ (i := 2) (N := (some 37)) (v := ?_) (a' := ?_) #[true, true, true, false, false, false, false, false, false, false, false, false, false, false, false, false, false, false, false, false, false, false, false, false, false, false, false, false, false, false, false] rfl rfl (by kernel_rfl) (fun _ _ _ h => h) (Or.inl ⟨by rfl, ?_⟩) ?_ ?_
  rotate_left
  · intro w'
    go_simp
    with_reducible rfl
  rotate_left
  · simp only [Act.put, List.setIfInBounds_toArray, List.set_cons_zero, List.set_cons_succ]
    rfl
  refine pure_ (i := 3) (N := (some 38)) (v := ?_) (a' := ?_) #[true, true, true, true, false, false, false, false, false, false, false, false, false, false, false, false, false, false, false, false, false, false, false, false, false, false, false, false, false, false, false] rfl rfl (by kernel_rfl) (fun _ _ _ h => h) (Or.inl ⟨by rfl, ?_⟩) ?_ ?_
  rotate_left
  · intro w'
    go_simp
    with_reducible rfl
  rotate_left
  · simp only [Act.put, List.setIfInBounds_toArray, List.set_cons_zero, List.set_cons_succ]
    rfl
  refine take_ (i := 4) (N := (some 39)) (v := ?_) (a' := ?_) #[true, true, true, true, true, false, false, false, false, false, false, false, false, false, false, false, false, false, false, false, false, false, false, false, false, false, false, false, false, false, false] rfl rfl (by kernel_rfl) (fun _ _ _ h => h) (Or.inl ⟨by rfl, ?_⟩) hS0 ?_ ?_
  rotate_left
  · intro w' s0
    have hx := (s0.cell (World.block_lt_of_cell? w2 _ hct)).trans hct
    go_simp
    with_reducible rfl
  rotate_left
  · simp only [Act.put, List.setIfInBounds_toArray, List.set_cons_zero, List.set_cons_succ]
    rfl
  refine pure_ (i := 5) (N := (some 40)) (v := ?_) (a' := ?_) #[true, true, true, true, true, true, false, false, false, false, false, false, false, false, false, false, false, false, false, false, false, false, false, false, false, false, false, false, false, false, false] rfl rfl (by kernel_rfl) (fun _ _ _ h => h) (Or.inl ⟨by rfl, ?_⟩) ?_ ?_
  rotate_left
  · intro w'
    go_simp
    with_reducible rfl
  rotate_left
  · simp only [Act.put, List.setIfInBounds_toArray, List.set_cons_zero, List.set_cons_succ]
    rfl
  refine pure_ (i := 6) (N := (some 41)) (v := ?_) (a' := ?_) #[true, true, true, true, true, true, true, false, false, false, false, false, false, false, false, false, false, false, false, false, false, false, false, false, false, false, false, false, false, false, false] rfl rfl (by kernel_rfl) (fun _ _ _ h => h) (Or.inl ⟨by rfl, ?_⟩) ?_ ?_
  rotate_left
  · intro w'
    go_simp
    with_reducible rfl
  rotate_left
  · simp only [Act.put, List.setIfInBounds_toArray, List.set_cons_zero, List.set_cons_succ]
    rfl
  refine pure_ (i := 7) (N := (some 42)) (v := ?_) (a' := ?_) #[true, true, true, true, true, true, true, true, false, false, false, false, false, false, false, false, false, false, false, false, false, false, false, false, false, false, false, false, false, false, false] rfl rfl (by kernel_rfl) (fun _ _ _ h => h) (Or.inl ⟨by rfl, ?_⟩) ?_ ?_
  rotate_left
  · intro w'
    go_simp
    with_reducible rfl
  rotate_left
  · simp only [Act.put, List.setIfInBounds_toArray, List.set_cons_zero, List.set_cons_succ]
    rfl
  refine pure_ (i := 8) (N := (some 43)) (v := ?_) (a' := ?_) #[true, true, true, true, true, true, true, true, true, false, false, false, false, false, false, false, false, false, false, false, false, false, false, false, false, false, false, false, false, false, false] rfl rfl (by kernel_rfl) (fun _ _ _ h => h) (Or.inl ⟨by rfl, ?_⟩) ?_ ?_
  rotate_left
  · intro w'
    go_simp
    with_reducible rfl
  rotate_left
  · simp only [Act.put, List.setIfInBounds_toArray, List.set_cons_zero, List.set_cons_succ]
    rfl
  refine pure_ (i := 9) (N := (some 44)) (v := ?_) (a' := ?_) #[true, true, true, true, true, true, true, true, true, true, false, false, false, false, false, false, false, false, false, false, false, false, false, false, false, false, false, false, false, false, false] rfl rfl (by kernel_rfl) (fun _ _ _ h => h) (Or.inl ⟨by rfl, ?_⟩) ?_ ?_
  rotate_left
  · intro w'
    go_simp
    with_reducible rfl
  rotate_left
  · simp only [Act.put, List.setIfInBounds_toArray, List.set_cons_zero, List.set_cons_succ]
    rfl
  refine pure_ (i := 10) (N := (some 45)) (v := ?_) (a' := ?_) #[true, true, true, true, true, true, true, true, true, true, true, false, false, false, false, false, false, false, false, false, false, false, false, false, false, false, false, false, false, false, false] rfl rfl (by kernel_rfl) (fun _ _ _ h => h) (Or.inl ⟨by rfl, ?_⟩) ?_ ?_
  rotate_left
  · intro w'
    go_simp
    with_reducible rfl
  rotate_left
  · simp only [Act.put, List.setIfInBounds_toArray, List.set_cons_zero, List.set_cons_succ]
    rfl
  refine pure_ (i := 11) (N := (some 46)) (v := ?_) (a' := ?_) #[true, true, true, true, true, true, true, true, true, true, true, true, false, false, false, false, false, false, false, false, false, false, false, false, false, false, false, false, false, false, false] rfl rfl (by kernel_rfl) (fun _ _ _ h => h) (Or.inl ⟨by rfl, ?_⟩) ?_ ?_
  rotate_left
  · intro w'
    go_simp
    with_reducible rfl
  rotate_left
  · simp only [Act.put, List.setIfInBounds_toArray, List.set_cons_zero, List.set_cons_succ]
    rfl
  refine pure_ (i := 12) (N := (some 47)) (v := ?_) (a' := ?_) #[true, true, true, true, true, true, true, true, true, true, true, true, true, false, false, false, false, false, false, false, false, false, false, false, false, false, false, false, false, false, false] rfl rfl (by kernel_rfl) (fun _ _ _ h => h) (Or.inl ⟨by rfl, ?_⟩) ?_ ?_
  rotate_left
  · intro w'
    go_simp
    with_reducible rfl
  rotate_left
  · simp only [Act.put, List.setIfInBounds_toArray, List.set_cons_zero, List.set_cons_succ]
    rfl
  refine pure_ (i := 13) (N := (some 48)) (v := ?_) (a' := ?_) #[true, true, true, true, true, true, true, true, true, true, true, true, true, true, false, false, false, false, false, false, false, false, false, false, false, false, false, false, false, false, false] rfl rfl (by kernel_rfl) (fun _ _ _ h => h) (Or.inl ⟨by rfl, ?_⟩) ?_ ?_
  rotate_left
  · intro w'
    go_simp
    with_reducible rfl
  rotate_left
  · simp only [Act.put, List.setIfInBounds_toArray, List.set_cons_zero, List.set_cons_succ]
    rfl
  refine pure_ (i := 14) (N := (some 49)) (v := ?_) (a' := ?_) #[true, true, true, true, true, true, true, true, true, true, true, true, true, true, true, false, false, false, false, false, false, false, false, false, false, false, false, false, false, false, false] rfl rfl (by kernel_rfl) (fun _ _ _ h => h) (Or.inl ⟨by rfl, ?_⟩) ?_ ?_
  rotate_left
  · intro w'
    go_simp
    with_reducible rfl
  rotate_left
  · simp only [Act.put, List.setIfInBounds_toArray, List.set_cons_zero, List.set_cons_succ]
    rfl
  clear hS0
  refine one_ (i := 15) (N := (some 50)) #[true, true, true, true, true, true, true, true, true, true, true, true, true, true, true, true, false, false, false, false, false, false, false, false, false, false, false, false, false, false, false] rfl rfl (by kernel_rfl) (by decide) (fun K hK => ?_)
  refine goes_ Try.func36 (by kernel_rfl) rfl #[.slice B b.length cb, .int .i64 0] (by rfl) rfl rfl (by (try simp only [List.map_toArray, List.map_cons, List.map_nil]); rfl) ?_
  refine (CWeak.all_c 0 HBd.out (by have := HL.out; omega)).mono ?_
  rw [HY.out]
  rintro e w3 ⟨v3, rfl, h3, hb3⟩
  refine ⟨_, rfl, ?_⟩
  have HF3 := Aside0.mk h3
  have HFe := Aside0.mk (SLk.below HFd.out hb3)
  have HTe := Aside0.mk (SLk.below HTd.out hb3)
  have HAe := Aside0.mk (SLk.below HAd.out hb3)
  have HS3 := Aside0.mk (below_step HSd.out hb3)
  clear h3 hb3 HBd HFd HTd HAd HSd
  refine hK.out _ _ HS3.out (fun hS0 => ?_)
  clear hK
  refine norm_ (a' := ?_) ?_ ?_
  rotate_left
  · simp only [Act.put, List.setIfInBounds_toArray, List.set_cons_zero, List.set_cons_succ]
    rfl
  clear hS0
  refine one_ (i := 16) (N := (some 51)) #[true, true, true, true, true, true, true, true, true, true, true, true, true, true, true, true, true, false, false, false, false, false, false, false, false, false, false, false, false, false, false] rfl rfl (by kernel_rfl) (by decide) (fun K hK => ?_)
  refine goes_ Try.func20 (by kernel_rfl) rfl #[VF, v3] (by rfl) rfl rfl (by (try simp only [List.map_toArray, List.map_cons, List.map_nil]); rfl) ?_
  refine (equal_c HFe.out HF3.out (by have := HYL.out; have := HL.out; omega)).mono ?_
  rw [decide_eq_true rfl]
  rintro e w4 ⟨rfl, hb4⟩
  refine ⟨_, rfl, ?_⟩
  have HTf := Aside0.mk (SLk.below HTe.out hb4)
  have HAf := Aside0.mk (SLk.below HAe.out hb4)
  have HS4 := Aside0.mk (below_step HS3.out hb4)
  clear hb4 HFe HF3 HTe HAe HS3
  refine hK.out _ _ HS4.out (fun hS0 => ?_)
  clear hK
  refine norm_ (a' := ?_) ?_ ?_
  rotate_left
  · simp only [Act.put, List.setIfInBounds_toArray, List.set_cons_zero, List.set_cons_succ]
    rfl
  refine pure_ (i := 17) (N := (some 52)) (v := ?_) (a' := ?_) #[true, true, true, true, true, true, true, true, true, true, true, true, true, true, true, true, true, true, false, false, false, false, false, false, false, false, false, false, false, false, false] rfl rfl (by kernel_rfl) (fun _ _ _ h => h) (Or.inl ⟨by rfl, ?_⟩) ?_ ?_
  rotate_left
  · intro w'
    go_simp
    with_reducible rfl
  rotate_left
  · simp only [Act.put, List.setIfInBounds_toArray, List.set_cons_zero, List.set_cons_succ]
    rfl
  refine pure_ (i := 18) (N := (some 53)) (v := ?_) (a' := ?_) #[true, true, true, true, true, true, true, true, true, true, true, true, true, true, true, true, true, true, true, false, false, false, false, false, false, false, false, false, false, false, false] rfl rfl (by kernel_rfl) (fun _ _ _ h => h) (Or.inl ⟨by rfl, ?_⟩) ?_ ?_
  rotate_left
  · intro w'
    go_simp
    with_reducible rfl
  rotate_left
  · simp only [Act.put, List.setIfInBounds_toArray, List.set_cons_zero, List.set_cons_succ]
    rfl
  refine pure_ (i := 19) (N := (some 54)) (v := ?_) (a' := ?_) #[true, true, true, true, true, true, true, true, true, true, true, true, true, true, true, true, true, true, true, true, false, false, false, false, false, false, false, false, false, false, false] rfl rfl (by kernel_rfl) (fun _ _ _ h => h) (Or.inl ⟨by rfl, ?_⟩) ?_ ?_
  rotate_left
  · intro w'
    go_simp
    with_reducible rfl
  rotate_left
  · simp only [Act.put, List.setIfInBounds_toArray, List.set_cons_zero, List.set_cons_succ]
    rfl
  refine pure_ (i := 20) (N := (some 55)) (v := ?_) (a' := ?_) #[true, true, true, true, true, true, true, true, true, true, true, true, true, true, true, true, true, true, true, true, true, false, false, false, false, false, false, false, false, false, false] rfl rfl (by kernel_rfl) (fun _ _ _ h => h) (Or.inl ⟨by rfl, ?_⟩) ?_ ?_
  rotate_left
  · intro w'
    go_simp
    with_reducible rfl
  rotate_left
  · simp only [Act.put, List.setIfInBounds_toArray, List.set_cons_zero, List.set_cons_succ]
    rfl
  refine pure_ (i := 21) (N := (some 56)) (v := ?_) (a' := ?_) #[true, true, true, true, true, true, true, true, true, true, true, true, true, true, true, true, true, true, true, true, true, true, false, false, false, false, false, false, false, false, false] rfl rfl (by kernel_rfl) (fun _ _ _ h => h) (Or.inl ⟨by rfl, ?_⟩) ?_ ?_
  rotate_left
  · intro w'
    go_simp
    with_reducible rfl
  rotate_left
  · simp only [Act.put, List.setIfInBounds_toArray, List.set_cons_zero, List.set_cons_succ]
    rfl
  refine pure_ (i := 22) (N := (some 57)) (v := ?_) (a' := ?_) #[true, true, true, true, true, true, true, true, true, true, true, true, true, true, true, true, true, true, true, true, true, true, true, false, false, false, false, false, false, false, false] rfl rfl (by kernel_rfl) (fun _ _ _ h => h) (Or.inl ⟨by rfl, ?_⟩) ?_ ?_
  rotate_left
  · intro w'
    go_simp
    with_reducible rfl
  rotate_left
  · simp only [Act.put, List.setIfInBounds_toArray, List.set_cons_zero, List.set_cons_succ]
    rfl
  refine pure_ (i := 23) (N := (some 58)) (v := ?_) (a' := ?_) #[true, true, true, true, true, true, true, true, true, true, true, true, true, true, true, true, true, true, true, true, true, true, true, true, false, false, false, false, false, false, false] rfl rfl (by kernel_rfl) (fun _ _ _ h => h) (Or.inl ⟨by rfl, ?_⟩) ?_ ?_
  rotate_left
  · intro w'
    go_simp
    with_reducible rfl
  rotate_left
  · simp only [Act.put, List.setIfInBounds_toArray, List.set_cons_zero, List.set_cons_succ]
    rfl
  clear hS0
  refine one_ (i := 24) (N := (some 59)) #[true, true, true, true, true, true, true, true, true, true, true, true, true, true, true, true, true, true, true, true, true, true, true, true, true, false, false, false, false, false, false] rfl rfl (by kernel_rfl) (by decide) (fun K hK => ?_)
  refine goes_ Try.func36 (by kernel_rfl) rfl #[.slice A a.length ca, .int .i64 0] (by rfl) rfl rfl (by (try simp only [List.map_toArray, List.map_cons, List.map_nil]); rfl) ?_
  refine (CWeak.all_c 0 HAf.out (by have := HL.out; omega)).mono ?_
  rw [HX.out]
  rintro e w5 ⟨v5, rfl, h5, hb5⟩
  refine ⟨_, rfl, ?_⟩
  have HT5 := Aside0.mk h5
  have HTg := Aside0.mk (SLk.below HTf.out hb5)
  have HS5 := Aside0.mk (below_step HS4.out hb5)
  clear h5 hb5 HTf HAf HS4
  refine hK.out _ _ HS5.out (fun hS0 => ?_)
  clear hK
  refine norm_ (a' := ?_) ?_ ?_
  rotate_left
  · simp only [Act.put, List.setIfInBounds_toArray, List.set_cons_zero, List.set_cons_succ]
    rfl
  clear hS0
  refine one_ (i := 25) (N := (some 60)) #[true, true, true, true, true, true, true, true, true, true, true, true, true, true, true, true, true, true, true, true, true, true, true, true, true, true, false, false, false, false, false] rfl rfl (by kernel_rfl) (by decide) (fun K hK => ?_)
  refine goes_ Try.func20 (by kernel_rfl) rfl #[VT, v5] (by rfl) rfl rfl (by (try simp only [List.map_toArray, List.map_cons, List.map_nil]); rfl) ?_
  refine (equal_c HTg.out HT5.out (by have := HXL.out; have := HL.out; omega)).mono ?_
  rw [decide_eq_true rfl]
  rintro e w6 ⟨rfl, hb6⟩
  refine ⟨_, rfl, ?_⟩
  have HS6 := Aside0.mk (below_step HS5.out hb6)
  clear hb6 HTg HT5 HS5
  refine hK.out _ _ HS6.out (fun hS0 => ?_)
  clear hK
  refine norm_ (a' := ?_) ?_ ?_
  rotate_left
  · simp only [Act.put, List.setIfInBounds_toArray, List.set_cons_zero, List.set_cons_succ]
    rfl
  refine pure_ (i := 26) (N := (some 61)) (v := ?_) (a' := ?_) #[true, true, true, true, true, true, true, true, true, true, true, true, true, true, true, true, true, true, true, true, true, true, true, true, true, true, true, false, false, false, false] rfl rfl (by kernel_rfl) (fun _ _ _ h => h) (Or.inl ⟨by rfl, ?_⟩) ?_ ?_
  rotate_left
  · intro w'
    go_simp
    with_reducible rfl
  rotate_left
  · simp only [Act.put, List.setIfInBounds_toArray, List.set_cons_zero, List.set_cons_succ]
    rfl
  refine pure_ (i := 27) (N := (some 62)) (v := ?_) (a' := ?_) #[true, true, true, true, true, true, true, true, true, true, true, true, true, true, true, true, true, true, true, true, true, true, true, true, true, true, true, true, false, false, false] rfl rfl (by kernel_rfl) (fun _ _ _ h => h) (Or.inl ⟨by rfl, ?_⟩) ?_ ?_
  rotate_left
  · intro w'
    go_simp
    with_reducible rfl
  rotate_left
  · simp only [Act.put, List.setIfInBounds_toArray, List.set_cons_zero, List.set_cons_succ]
    rfl
  clear hS0
  refine one_ (i := 28) (N := (some 63)) #[true, true, true, true, true, true, true, true, true, true, true, true, true, true, true, true, true, true, true, true, true, true, true, true, true, true, true, true, true, false, false] rfl rfl (by kernel_rfl) (by decide) (fun K hK => ?_)
  refine goes_ Try.func35 (by kernel_rfl) rfl #[] (by rfl) rfl rfl (by simp only [List.map_toArray, List.map_nil]) ?_
  refine (CWeak.awake_c _).mono ?_
  rintro e w7 ⟨rfl, hb7⟩
  refine ⟨_, rfl, ?_⟩
  have HS7 := Aside0.mk (below_step HS6.out hb7)
  clear hb7 HS6
  refine hK.out _ _ HS7.out (fun hS0 => ?_)
  clear hK
  refine norm_ (a' := ?_) ?_ ?_
  rotate_left
  · simp only [Act.put, List.setIfInBounds_toArray, List.set_cons_zero, List.set_cons_succ]
    rfl
  refine pure_ (i := 29) (N := (some 64)) (v := ?_) (a' := ?_) #[true, true, true, true, true, true, true, true, true, true, true, true, true, true, true, true, true, true, true, true, true, true, true, true, true, true, true, true, true, true, false] rfl rfl (by kernel_rfl) (fun _ _ _ h => h) (Or.inl ⟨by rfl, ?_⟩) ?_ ?_
  rotate_left
  · intro w'
    go_simp
    with_reducible rfl
  rotate_left
  · simp only [Act.put, List.setIfInBounds_toArray, List.set_cons_zero, List.set_cons_succ]
    rfl
  refine pure_ (i := 30) (N := (some 6)) (v := ?_) (a' := ?_) #[true, true, true, true, true, true, true, true, true, true, true, true, true, true, true, true, true, true, true, true, true, true, true, true, true, true, true, true, true, true, true] rfl rfl (by kernel_rfl) (fun _ _ _ h => h) (Or.inl ⟨by rfl, ?_⟩) ?_ ?_
  rotate_left
  · intro w'
    go_simp
    with_reducible rfl
  rotate_left
  · simp only [Act.put, List.setIfInBounds_toArray, List.set_cons_zero, List.set_cons_succ]
    rfl
  refine done_ (by kernel_rfl) ?_
  clear hS0
  go_wp2
  go_ret
  exact ⟨rfl, below_step HW2.out HS7.out⟩

set_option maxRecDepth 100000 in
set_option maxHeartbeats 2000000 in
theorem parts_true (a b : List Int) (w : World) (va vb : Value) (ha : SL w va a) (hb : SL w vb b) (ga : a.length ≤ 150) (gb : b.length ≤ 150) :
    Calls Try.prog 11 #[va, vb, .bool true] w fun e w' => e = .returned (.bool true) ∧ Below w.heap.size w w' := by
  have HA := Aside0.mk ha
  have HB := Aside0.mk hb
  obtain ⟨A, ca, rfl, _, _⟩ := ha
  obtain ⟨B, cb, rfl, _, _⟩ := hb
  have a1 : decide (150 < (a.length : Int)) = false := decide_eq_false (by omega)
  have a2 : decide (150 < a.length) = false := decide_eq_false (by omega)
  have b1 : decide (150 < (b.length : Int)) = false := decide_eq_false (by omega)
  have b2 : decide (150 < b.length) = false := decide_eq_false (by omega)
  have hs : SLs ((w.alloc (.cells #[.int .i64 1] 3)).alloc (.cells #[.slice A a.length ca, .slice (some ⟨w.heap.size, 0, none⟩) 1 1, .slice B b.length cb] 22)) (.slice (some ⟨w.heap.size + 1, 0, none⟩) 3 3) [a, [1], b] := by
    have z0 : SL (w.alloc (.cells #[.int .i64 1] 3)) (.slice (some ⟨w.heap.size, 0, none⟩) 1 1) [1] := SL_lit w 3 [1] (by decide)
    have e1 : (w.alloc (.cells #[.int .i64 1] 3)).heap.size = w.heap.size + 1 := by simp
    have := SLs_lit (w.alloc (.cells #[.int .i64 1] 3)) 22 [.slice A a.length ca, .slice (some ⟨w.heap.size, 0, none⟩) 1 1, .slice B b.length cb] [a, [1], b] (by simp) (fun i x hx => by
      rcases i with _ | _ | _ | i
      · obtain rfl := Option.some.inj hx; exact ⟨_, rfl, SLk.alloc HA.out _⟩
      · obtain rfl := Option.some.inj hx; exact ⟨_, rfl, z0⟩
      · obtain rfl := Option.some.inj hx; exact ⟨_, rfl, SLk.alloc HB.out _⟩
      · simp at hx)
    rw [e1] at this
    exact this
  have HS := Aside0.mk hs
  have HL : Aside0 (a.length ≤ 150 ∧ b.length ≤ 150) := ⟨ga, gb⟩
  clear hs
  go_enter Try.func11, Try.ntmps11
  go_wp2_with fail
  refine (concat_c HS.out (by simp) (by simp [total]; omega)).mono ?_
  rintro e w1 ⟨u, rfl, hu, hb⟩
  have hbw : Below w.heap.size w w1 := below_step (below_alloc (below_alloc (Below.refl _ _) _) _) hb
  have hf : [a, [1], b].flatten = a ++ 1 :: b := by simp
  rw [hf] at hu
  have HU := Aside0.mk (SLk.of_R hu)
  have HW := Aside0.mk hbw
  have HAL := Aside0.mk (show (a ++ 1 :: b).length = a.length + 1 + b.length by simp; omega)
  clear hu hb hf hbw
  go_wp2_with fail
  refine (CWeak.all_c 0 HU.out (by have := HAL.out; omega)).mono ?_
  rintro e w2 ⟨u2, rfl, hu2, hb⟩
  rw [parts 1 (by decide) 0 a b] at hu2
  have hxl : (allW 0 a).length = a.length := t7_length 0 a
  have hyl : (allW 1 b).length = b.length := t7_length 1 b
  have HW2 := Aside0.mk (below_step HW.out hb)
  have HEX : ∃ x y : List Int, Aside0 (allW 0 a = x) ∧ Aside0 (allW 1 b = y) := ⟨_, _, ⟨rfl⟩, ⟨rfl⟩⟩
  obtain ⟨x, y, HX, HY⟩ := HEX
  rw [HX.out] at hu2 hxl
  rw [HY.out] at hu2 hyl
  obtain ⟨U2, cu2, rfl, hcu, hC2⟩ := hu2
  have hfl : (x ++ 1 :: y).length = a.length + 1 + b.length := by simp; omega
  have hxt : (x ++ 1 :: y).take a.length = x := by rw [← hxl, List.take_left']; rfl
  have hxd : (x ++ 1 :: y).drop (a.length + 1) = y := by rw [← hxl, List.drop_append]; simp
  have hat : rd (x ++ 1 :: y) (a.length : Int) = 1 := by rw [← hxl]; exact part_mid x y 1
  generalize (x ++ 1 :: y) = f at hC2 hcu hfl hxt hxd hat
  have HC2 := Aside0.mk hC2
  have hne : ((f.length : Int) != (a.length : Int) + 1 + (b.length : Int)) = false := by simp; omega
  obtain ⟨i0, hi0, _, hsz0, _⟩ := info_parts info3
  have hq1 : IntKind.i64.wrap ((a.length : Int) + 1) = (a.length : Int) + 1 := IntWalk.i64_in _ (by omega)
  have hq2 : IntKind.i64.wrap ((a.length : Int) + 1 + (b.length : Int)) = (a.length : Int) + 1 + (b.length : Int) := IntWalk.i64_in _ (by omega)
  have hcutT := cut_to (P := Try.prog) 22 3 .i64 Try.underlying22 hi0 U2 f.length cu2 (a.length : Int) (by omega) (by omega) hcu
  have hcutF := cut_from (P := Try.prog) 22 3 .i64 Try.underlying22 hi0 1 hsz0 U2 f.length cu2 ((a.length : Int) + 1) (by omega) (by omega)
  have hsT : SL w2 (.slice U2 (a.length : Int).toNat cu2) x := by
    have h1 := Kd.C_take (m := a.length) hC2 (by omega)
    rw [hxt] at h1
    rw [Int.toNat_natCast]
    exact ⟨U2, cu2, by rw [hxl], by omega, h1⟩
  have hsF : SL w2 (.slice (if cu2 = ((a.length : Int) + 1).toNat then U2 else U2.map (·.add (((a.length : Int) + 1).toNat * 1))) (f.length - ((a.length : Int) + 1).toNat) (cu2 - ((a.length : Int) + 1).toNat)) y := by
    rw [show ((a.length : Int) + 1).toNat = a.length + 1 by omega]
    have h1 := Kd.C_drop (m := a.length + 1) hC2 (by omega) hcu
    rw [hxd] at h1
    exact ⟨_, cu2 - (a.length + 1), by rw [show f.length - (a.length + 1) = y.length by omega]; rfl, by omega, h1⟩
  generalize (Value.slice (if cu2 = ((a.length : Int) + 1).toNat then U2 else U2.map (·.add (((a.length : Int) + 1).toNat * 1))) (f.length - ((a.length : Int) + 1).toNat) (cu2 - ((a.length : Int) + 1).toNat)) = VF at hcutF hsF
  generalize (Value.slice U2 (a.length : Int).toNat cu2) = VT at hcutT hsT
  have HT := Aside0.mk hsT
  have HF := Aside0.mk hsF
  obtain ⟨ad, ea, hct⟩ := Kd.at_int hC2 (a.length : Int) (by omega) (by omega)
  cases ea
  rw [hat] at hct
  simp only [Int.toNat_natCast] at hct
  have hctd : w2.drew.cell? (ad.add a.length) = some (.int .i64 1) := hct
  have hq3 : (a.length : Int) < (f.length : Int) := by omega
  have hq4 : decide ((a.length : Int) < (f.length : Int)) = true := decide_eq_true hq3
  have HFL := Aside0.mk hfl
  have HXL := Aside0.mk hxl
  have HYL := Aside0.mk hyl
  clear hb hsT hsF hat hxt hxd hfl hxl hyl hi0
  go_wp2_with fail
  have HWd : Aside0 (Below w.heap.size w w2.drew) := ⟨below_drew HW2.out⟩
  have HAd : Aside0 (SL w2.drew (.slice A a.length ca) a) := ⟨SLk.below HA.out HWd.out⟩
  have HBd : Aside0 (SL w2.drew (.slice B b.length cb) b) := ⟨SLk.below HB.out HWd.out⟩
  have HTd : Aside0 (SL w2.drew VT x) := ⟨SLk.below HT.out (below_drew (Below.refl _ _))⟩
  have HFd : Aside0 (SL w2.drew VF y) := ⟨SLk.below HF.out (below_drew (Below.refl _ _))⟩
  have HSd : Aside0 (Below w2.heap.size w2 w2.drew) := ⟨below_drew (Below.refl _ _)⟩
  refine start_ (n := 31) (S := fun W => Below w2.heap.size w2 W) (ds := []) #[false, false, false, false, false, false, false, false, false, false, false, false, false, false, false, false, false, false, false, false, false, false, false, false, false, false, false, false, false, false, false] (by kernel_rfl) (by kernel_rfl) (by rfl) HSd.out (fun hS0 => ?_)
  refine pure_ (i := 0) (N := (some 35)) (v := ?_) (a' := ?_) #[true, false, false, false, false, false, false, false, false, false, false, false, false, false, false, false, false, false, false, false, false, false, false, false, false, false, false, false, false, false, false] rfl rfl (by kernel_rfl) (fun _ _ _ h => h) (Or.inl ⟨by rfl, ?_⟩) ?_ ?_
  rotate_left
  · intro w'
    go_simp
    with_reducible rfl
  rotate_left
  · simp only [Act.put, List.setIfInBounds_toArray, List.set_cons_zero, List.set_cons_succ]
    rfl
  refine pure_ (i := 1) (N := (some 36)) (v := ?_) (a' := ?_) #[true, true, false, false, false, false, false, false, false, false, false, false, false, false, false, false, false, false, false, false, false, false, false, false, false, false, false, false, false, false, false] rfl rfl (by kernel_rfl) (fun _ _ _ h => h) (Or.inl ⟨by rfl, ?_⟩) ?_ ?_
  rotate_left
  · intro w'
    go_simp
    with_reducible rfl
  rotate_left
  · simp only [Act.put, List.setIfInBounds_toArray, List.set_cons_zero, List.set_cons_succ]
    rfl
  refine pure_ (i := 2) (N := (some 37)) (v := ?_) (a' := ?_) #[true, true, true, false, false, false, false, false, false, false, false, false, false, false, false, false, false, false, false, false, false, false, false, false, false, false, false, false, false, false, false] rfl rfl (by kernel_rfl) (fun _ _ _ h => h) (Or.inl ⟨by rfl, ?_⟩) ?_ ?_
  rotate_left
  · intro w'
    go_simp
    with_reducible rfl
  rotate_left
  · simp only [Act.put, List.setIfInBounds_toArray, List.set_cons_zero, List.set_cons_succ]
    rfl
  refine pure_ (i := 3) (N := (some 38)) (v := ?_) (a' := ?_) #[true, true, true, true, false, false, false, false, false, false, false, false, false, false, false, false, false, false, false, false, false, false, false, false, false, false, false, false, false, false, false] rfl rfl (by kernel_rfl) (fun _ _ _ h => h) (Or.inl ⟨by rfl, ?_⟩) ?_ ?_
  rotate_left
  · intro w'
    go_simp
    with_reducible rfl
  rotate_left
  · simp only [Act.put, List.setIfInBounds_toArray, List.set_cons_zero, List.set_cons_succ]
    rfl
  refine take_ (i := 4) (N := (some 39)) (v := ?_) (a' := ?_) #[true, true, true, true, true, false, false, false, false, false, false, false, false, false, false, false, false, false, false, false, false, false, false, false, false, false, false, false, false, false, false] rfl rfl (by kernel_rfl) (fun _ _ _ h => h) (Or.inl ⟨by rfl, ?_⟩) hS0 ?_ ?_
  rotate_left
  · intro w' s0
    have hx := (s0.cell (World.block_lt_of_cell? w2 _ hct)).trans hct
    go_simp
    with_reducible rfl
  rotate_left
  · simp only [Act.put, List.setIfInBounds_toArray, List.set_cons_zero, List.set_cons_succ]
    rfl
  refine pure_ (i := 5) (N := (some 40)) (v := ?_) (a' := ?_) #[true, true, true, true, true, true, false, false, false, false, false, false, false, false, false, false, false, false, false, false, false, false, false, false, false, false, false, false, false, false, false] rfl rfl (by kernel_rfl) (fun _ _ _ h => h) (Or.inl ⟨by rfl, ?_⟩) ?_ ?_
  rotate_left
  · intro w'
    go_simp
    with_reducible rfl
  rotate_left
  · simp only [Act.put, List.setIfInBounds_toArray, List.set_cons_zero, List.set_cons_succ]
    rfl
  refine pure_ (i := 6) (N := (some 41)) (v := ?_) (a' := ?_) #[true, true, true, true, true, true, true, false, false, false, false, false, false, false, false, false, false, false, false, false, false, false, false, false, false, false, false, false, false, false, false] rfl rfl (by kernel_rfl) (fun _ _ _ h => h) (Or.inl ⟨by rfl, ?_⟩) ?_ ?_
  rotate_left
  · intro w'
    go_simp
    with_reducible rfl
  rotate_left
  · simp only [Act.put, List.setIfInBounds_toArray, List.set_cons_zero, List.set_cons_succ]
    rfl
  refine pure_ (i := 7) (N := (some 42)) (v := ?_) (a' := ?_) #[true, true, true, true, true, true, true, true, false, false, false, false, false, false, false, false, false, false, false, false, false, false, false, false, false, false, false, false, false, false, false] rfl rfl (by kernel_rfl) (fun _ _ _ h => h) (Or.inl ⟨by rfl, ?_⟩) ?_ ?_
  rotate_left
  · intro w'
    go_simp
    with_reducible rfl
  rotate_left
  · simp only [Act.put, List.setIfInBounds_toArray, List.set_cons_zero, List.set_cons_succ]
    rfl
  refine pure_ (i := 8) (N := (some 43)) (v := ?_) (a' := ?_) #[true, true, true, true, true, true, true, true, true, false, false, false, false, false, false, false, false, false, false, false, false, false, false, false, false, false, false, false, false, false, false] rfl rfl (by kernel_rfl) (fun _ _ _ h => h) (Or.inl ⟨by rfl, ?_⟩) ?_ ?_
  rotate_left
  · intro w'
    go_simp
    with_reducible rfl
  rotate_left
  · simp only [Act.put, List.setIfInBounds_toArray, List.set_cons_zero, List.set_cons_succ]
    rfl
  refine pure_ (i := 9) (N := (some 44)) (v := ?_) (a' := ?_) #[true, true, true, true, true, true, true, true, true, true, false, false, false, false, false, false, false, false, false, false, false, false, false, false, false, false, false, false, false, false, false] rfl rfl (by kernel_rfl) (fun _ _ _ h => h) (Or.inl ⟨by rfl, ?_⟩) ?_ ?_
  rotate_left
  · intro w'
    go_simp
    with_reducible rfl
  rotate_left
  · simp only [Act.put, List.setIfInBounds_toArray, List.set_cons_zero, List.set_cons_succ]
    rfl
  refine pure_ (i := 10) (N := (some 45)) (v := ?_) (a' := ?_) #[true, true, true, true, true, true, true, true, true, true, true, false, false, false, false, false, false, false, false, false, false, false, false, false, false, false, false, false, false, false, false] rfl rfl (by kernel_rfl) (fun _ _ _ h => h) (Or.inl ⟨by rfl, ?_⟩) ?_ ?_
  rotate_left
  · intro w'
    go_simp
    with_reducible rfl
  rotate_left
  · simp only [Act.put, List.setIfInBounds_toArray, List.set_cons_zero, List.set_cons_succ]
    rfl
  refine pure_ (i := 11) (N := (some 46)) (v := ?_) (a' := ?_) #[true, true, true, true, true, true, true, true, true, true, true, true, false, false, false, false, false, false, false, false, false, false, false, false, false, false, false, false, false, false, false] rfl rfl (by kernel_rfl) (fun _ _ _ h => h) (Or.inl ⟨by rfl, ?_⟩) ?_ ?_
  rotate_left
  · intro w'
    go_simp
    with_reducible rfl
  rotate_left
  · simp only [Act.put, List.setIfInBounds_toArray, List.set_cons_zero, List.set_cons_succ]
    rfl
  refine pure_ (i := 12) (N := (some 47)) (v := ?_) (a' := ?_) #[true, true, true, true, true, true, true, true, true, true, true, true, true, false, false, false, false, false, false, false, false, false, false, false, false, false, false, false, false, false, false] rfl rfl (by kernel_rfl) (fun _ _ _ h => h) (Or.inl ⟨by rfl, ?_⟩) ?_ ?_
  rotate_left
  · intro w'
    go_simp
    with_reducible rfl
  rotate_left
  · simp only [Act.put, List.setIfInBounds_toArray, List.set_cons_zero, List.set_cons_succ]
    rfl
  refine pure_ (i := 13) (N := (some 48)) (v := ?_) (a' := ?_) #[true, true, true, true, true, true, true, true, true, true, true, true, true, true, false, false, false, false, false, false, false, false, false, false, false, false, false, false, false, false, false] rfl rfl (by kernel_rfl) (fun _ _ _ h => h) (Or.inl ⟨by rfl, ?_⟩) ?_ ?_
  rotate_left
  · intro w'
    go_simp
    with_reducible rfl
  rotate_left
  · simp only [Act.put, List.setIfInBounds_toArray, List.set_cons_zero, List.set_cons_succ]
    rfl
  refine pure_ (i := 14) (N := (some 49)) (v := ?_) (a' := ?_) #[true, true, true, true, true, true, true, true, true, true, true, true, true, true, true, false, false, false, false, false, false, false, false, false, false, false, false, false, false, false, false] rfl rfl (by kernel_rfl) (fun _ _ _ h => h) (Or.inl ⟨by rfl, ?_⟩) ?_ ?_
  rotate_left
  · intro w'
    go_simp
    with_reducible rfl
  rotate_left
  · simp only [Act.put, List.setIfInBounds_toArray, List.set_cons_zero, List.set_cons_succ]
    rfl
  clear hS0
  refine one_ (i := 15) (N := (some 50)) #[true, true, true, true, true, true, true, true, true, true, true, true, true, true, true, true, false, false, false, false, false, false, false, false, false, false, false, false, false, false, false] rfl rfl (by kernel_rfl) (by decide) (fun K hK => ?_)
  refine goes_ Try.func36 (by kernel_rfl) rfl #[.slice B b.length cb, .int .i64 1] (by rfl) rfl rfl (by (try simp only [List.map_toArray, List.map_cons, List.map_nil]); rfl) ?_
  refine (CWeak.all_c 1 HBd.out (by have := HL.out; omega)).mono ?_
  rw [HY.out]
  rintro e w3 ⟨v3, rfl, h3, hb3⟩
  refine ⟨_, rfl, ?_⟩
  have HF3 := Aside0.mk h3
  have HFe := Aside0.mk (SLk.below HFd.out hb3)
  have HTe := Aside0.mk (SLk.below HTd.out hb3)
  have HAe := Aside0.mk (SLk.below HAd.out hb3)
  have HS3 := Aside0.mk (below_step HSd.out hb3)
  clear h3 hb3 HBd HFd HTd HAd HSd
  refine hK.out _ _ HS3.out (fun hS0 => ?_)
  clear hK
  refine norm_ (a' := ?_) ?_ ?_
  rotate_left
  · simp only [Act.put, List.setIfInBounds_toArray, List.set_cons_zero, List.set_cons_succ]
    rfl
  clear hS0
  refine one_ (i := 16) (N := (some 51)) #[true, true, true, true, true, true, true, true, true, true, true, true, true, true, true, true, true, false, false, false, false, false, false, false, false, false, false, false, false, false, false] rfl rfl (by kernel_rfl) (by decide) (fun K hK => ?_)
  refine goes_ Try.func20 (by kernel_rfl) rfl #[VF, v3] (by rfl) rfl rfl (by (try simp only [List.map_toArray, List.map_cons, List.map_nil]); rfl) ?_
  refine (equal_c HFe.out HF3.out (by have := HYL.out; have := HL.out; omega)).mono ?_
  rw [decide_eq_true rfl]
  rintro e w4 ⟨rfl, hb4⟩
  refine ⟨_, rfl, ?_⟩
  have HTf := Aside0.mk (SLk.below HTe.out hb4)
  have HAf := Aside0.mk (SLk.below HAe.out hb4)
  have HS4 := Aside0.mk (below_step HS3.out hb4)
  clear hb4 HFe HF3 HTe HAe HS3
  refine hK.out _ _ HS4.out (fun hS0 => ?_)
  clear hK
  refine norm_ (a' := ?_) ?_ ?_
  rotate_left
  · simp only [Act.put, List.setIfInBounds_toArray, List.set_cons_zero, List.set_cons_succ]
    rfl
  refine pure_ (i := 17) (N := (some 52)) (v := ?_) (a' := ?_) #[true, true, true, true, true, true, true, true, true, true, true, true, true, true, true, true, true, true, false, false, false, false, false, false, false, false, false, false, false, false, false] rfl rfl (by kernel_rfl) (fun _ _ _ h => h) (Or.inl ⟨by rfl, ?_⟩) ?_ ?_
  rotate_left
  · intro w'
    go_simp
    with_reducible rfl
  rotate_left
  · simp only [Act.put, List.setIfInBounds_toArray, List.set_cons_zero, List.set_cons_succ]
    rfl
  refine pure_ (i := 18) (N := (some 53)) (v := ?_) (a' := ?_) #[true, true, true, true, true, true, true, true, true, true, true, true, true, true, true, true, true, true, true, false, false, false, false, false, false, false, false, false, false, false, false] rfl rfl (by kernel_rfl) (fun _ _ _ h => h) (Or.inl ⟨by rfl, ?_⟩) ?_ ?_
  rotate_left
  · intro w'
    go_simp
    with_reducible rfl
  rotate_left
  · simp only [Act.put, List.setIfInBounds_toArray, List.set_cons_zero, List.set_cons_succ]
    rfl
  refine pure_ (i := 19) (N := (some 54)) (v := ?_) (a' := ?_) #[true, true, true, true, true, true, true, true, true, true, true, true, true, true, true, true, true, true, true, true, false, false, false, false, false, false, false, false, false, false, false] rfl rfl (by kernel_rfl) (fun _ _ _ h => h) (Or.inl ⟨by rfl, ?_⟩) ?_ ?_
  rotate_left
  · intro w'
    go_simp
    with_reducible rfl
  rotate_left
  · simp only [Act.put, List.setIfInBounds_toArray, List.set_cons_zero, List.set_cons_succ]
    rfl
  refine pure_ (i := 20) (N := (some 55)) (v := ?_) (a' := ?_) #[true, true, true, true, true, true, true, true, true, true, true, true, true, true, true, true, true, true, true, true, true, false, false, false, false, false, false, false, false, false, false] rfl rfl (by kernel_rfl) (fun _ _ _ h => h) (Or.inl ⟨by rfl, ?_⟩) ?_ ?_
  rotate_left
  · intro w'
    go_simp
    with_reducible rfl
  rotate_left
  · simp only [Act.put, List.setIfInBounds_toArray, List.set_cons_zero, List.set_cons_succ]
    rfl
  refine pure_ (i := 21) (N := (some 56)) (v := ?_) (a' := ?_) #[true, true, true, true, true, true, true, true, true, true, true, true, true, true, true, true, true, true, true, true, true, true, false, false, false, false, false, false, false, false, false] rfl rfl (by kernel_rfl) (fun _ _ _ h => h) (Or.inl ⟨by rfl, ?_⟩) ?_ ?_
  rotate_left
  · intro w'
    go_simp
    with_reducible rfl
  rotate_left
  · simp only [Act.put, List.setIfInBounds_toArray, List.set_cons_zero, List.set_cons_succ]
    rfl
  refine pure_ (i := 22) (N := (some 57)) (v := ?_) (a' := ?_) #[true, true, true, true, true, true, true, true, true, true, true, true, true, true, true, true, true, true, true, true, true, true, true, false, false, false, false, false, false, false, false] rfl rfl (by kernel_rfl) (fun _ _ _ h => h) (Or.inl ⟨by rfl, ?_⟩) ?_ ?_
  rotate_left
  · intro w'
    go_simp
    with_reducible rfl
  rotate_left
  · simp only [Act.put, List.setIfInBounds_toArray, List.set_cons_zero, List.set_cons_succ]
    rfl
  refine pure_ (i := 23) (N := (some 58)) (v := ?_) (a' := ?_) #[true, true, true, true, true, true, true, true, true, true, true, true, true, true, true, true, true, true, true, true, true, true, true, true, false, false, false, false, false, false, false] rfl rfl (by kernel_rfl) (fun _ _ _ h => h) (Or.inl ⟨by rfl, ?_⟩) ?_ ?_
  rotate_left
  · intro w'
    go_simp
    with_reducible rfl
  rotate_left
  · simp only [Act.put, List.setIfInBounds_toArray, List.set_cons_zero, List.set_cons_succ]
    rfl
  clear hS0
  refine one_ (i := 24) (N := (some 59)) #[true, true, true, true, true, true, true, true, true, true, true, true, true, true, true, true, true, true, true, true, true, true, true, true, true, false, false, false, false, false, false] rfl rfl (by kernel_rfl) (by decide) (fun K hK => ?_)
  refine goes_ Try.func36 (by kernel_rfl) rfl #[.slice A a.length ca, .int .i64 0] (by rfl) rfl rfl (by (try simp only [List.map_toArray, List.map_cons, List.map_nil]); rfl) ?_
  refine (CWeak.all_c 0 HAf.out (by have := HL.out; omega)).mono ?_
  rw [HX.out]
  rintro e w5 ⟨v5, rfl, h5, hb5⟩
  refine ⟨_, rfl, ?_⟩
  have HT5 := Aside0.mk h5
  have HTg := Aside0.mk (SLk.below HTf.out hb5)
  have HS5 := Aside0.mk (below_step HS4.out hb5)
  clear h5 hb5 HTf HAf HS4
  refine hK.out _ _ HS5.out (fun hS0 => ?_)
  clear hK
  refine norm_ (a' := ?_) ?_ ?_
  rotate_left
  · simp only [Act.put, List.setIfInBounds_toArray, List.set_cons_zero, List.set_cons_succ]
    rfl
  clear hS0
  refine one_ (i := 25) (N := (some 60)) #[true, true, true, true, true, true, true, true, true, true, true, true, true, true, true, true, true, true, true, true, true, true, true, true, true, true, false, false, false, false, false] rfl rfl (by kernel_rfl) (by decide) (fun K hK => ?_)
  refine goes_ Try.func20 (by kernel_rfl) rfl #[VT, v5] (by rfl) rfl rfl (by (try simp only [List.map_toArray, List.map_cons, List.map_nil]); rfl) ?_
  refine (equal_c HTg.out HT5.out (by have := HXL.out; have := HL.out; omega)).mono ?_
  rw [decide_eq_true rfl]
  rintro e w6 ⟨rfl, hb6⟩
  refine ⟨_, rfl, ?_⟩
  have HS6 := Aside0.mk (below_step HS5.out hb6)
  clear hb6 HTg HT5 HS5
  refine hK.out _ _ HS6.out (fun hS0 => ?_)
  clear hK
  refine norm_ (a' := ?_) ?_ ?_
  rotate_left
  · simp only [Act.put, List.setIfInBounds_toArray, List.set_cons_zero, List.set_cons_succ]
    rfl
  refine pure_ (i := 26) (N := (some 61)) (v := ?_) (a' := ?_) #[true, true, true, true, true, true, true, true, true, true, true, true, true, true, true, true, true, true, true, true, true, true, true, true, true, true, true, false, false, false, false] rfl rfl (by kernel_rfl) (fun _ _ _ h => h) (Or.inl ⟨by rfl, ?_⟩) ?_ ?_
  rotate_left
  · intro w'
    go_simp
    with_reducible rfl
  rotate_left
  · simp only [Act.put, List.setIfInBounds_toArray, List.set_cons_zero, List.set_cons_succ]
    rfl
  refine pure_ (i := 27) (N := (some 62)) (v := ?_) (a' := ?_) #[true, true, true, true, true, true, true, true, true, true, true, true, true, true, true, true, true, true, true, true, true, true, true, true, true, true, true, true, false, false, false] rfl rfl (by kernel_rfl) (fun _ _ _ h => h) (Or.inl ⟨by rfl, ?_⟩) ?_ ?_
  rotate_left
  · intro w'
    go_simp
    with_reducible rfl
  rotate_left
  · simp only [Act.put, List.setIfInBounds_toArray, List.set_cons_zero, List.set_cons_succ]
    rfl
  clear hS0
  refine one_ (i := 28) (N := (some 63)) #[true, true, true, true, true, true, true, true, true, true, true, true, true, true, true, true, true, true, true, true, true, true, true, true, true, true, true, true, true, false, false] rfl rfl (by kernel_rfl) (by decide) (fun K hK => ?_)
  refine goes_ Try.func35 (by kernel_rfl) rfl #[] (by rfl) rfl rfl (by simp only [List.map_toArray, List.map_nil]) ?_
  refine (CWeak.awake_c _).mono ?_
  rintro e w7 ⟨rfl, hb7⟩
  refine ⟨_, rfl, ?_⟩
  have HS7 := Aside0.mk (below_step HS6.out hb7)
  clear hb7 HS6
  refine hK.out _ _ HS7.out (fun hS0 => ?_)
  clear hK
  refine norm_ (a' := ?_) ?_ ?_
  rotate_left
  · simp only [Act.put, List.setIfInBounds_toArray, List.set_cons_zero, List.set_cons_succ]
    rfl
  refine pure_ (i := 29) (N := (some 64)) (v := ?_) (a' := ?_) #[true, true, true, true, true, true, true, true, true, true, true, true, true, true, true, true, true, true, true, true, true, true, true, true, true, true, true, true, true, true, false] rfl rfl (by kernel_rfl) (fun _ _ _ h => h) (Or.inl ⟨by rfl, ?_⟩) ?_ ?_
  rotate_left
  · intro w'
    go_simp
    with_reducible rfl
  rotate_left
  · simp only [Act.put, List.setIfInBounds_toArray, List.set_cons_zero, List.set_cons_succ]
    rfl
  refine pure_ (i := 30) (N := (some 6)) (v := ?_) (a' := ?_) #[true, true, true, true, true, true, true, true, true, true, true, true, true, true, true, true, true, true, true, true, true, true, true, true, true, true, true, true, true, true, true] rfl rfl (by kernel_rfl) (fun _ _ _ h => h) (Or.inl ⟨by rfl, ?_⟩) ?_ ?_
  rotate_left
  · intro w'
    go_simp
    with_reducible rfl
  rotate_left
  · simp only [Act.put, List.setIfInBounds_toArray, List.set_cons_zero, List.set_cons_succ]
    rfl
  refine done_ (by kernel_rfl) ?_
  clear hS0
  go_wp2
  go_ret
  exact ⟨rfl, below_step HW2.out HS7.out⟩
set_option maxRecDepth 100000 in
theorem partsOutside (a b : List Int) (r : Bool) (w : World) (A B : Option Addr) (ca cb : Nat) (ha : a.length ≤ maxLen) (hb : b.length ≤ maxLen) (g : ¬ (a.length ≤ 150 ∧ b.length ≤ 150)) :
    Calls Try.prog 11 #[.slice A a.length ca, .slice B b.length cb, .bool r] w fun e w' => e = .returned (.bool true) ∧ Below w.heap.size w w' := by
  unfold maxLen at ha hb
  by_cases g1 : 150 < a.length
  · have a1 : decide (150 < (a.length : Int)) = true := decide_eq_true (by omega)
    have a2 : decide (150 < a.length) = true := decide_eq_true g1
    clear g g1
    go_enter Try.func11, Try.ntmps11
    go_wp2_with fail
    refine (CWeak.awake_c _).mono ?_
    rintro e w1 ⟨rfl, hb⟩
    go_wp2
    go_ret
    exact ⟨rfl, hb⟩
  have a1 : decide (150 < (a.length : Int)) = false := decide_eq_false (by omega)
  have a2 : decide (150 < a.length) = false := decide_eq_false g1
  have g3 : 150 < b.length := by omega
  have c1 : decide (150 < (b.length : Int)) = true := decide_eq_true (by omega)
  have c2 : decide (150 < b.length) = true := decide_eq_true g3
  clear g g1 g3
  go_enter Try.func11, Try.ntmps11
  go_wp2_with fail
  refine (CWeak.awake_c _).mono ?_
  rintro e w1 ⟨rfl, hb⟩
  go_wp2
  go_ret
  exact ⟨rfl, hb⟩
theorem weakPartsWalk (a b : List Int) (right : Bool) (w : World)
    (A0 : Option Addr) (c0 : Nat) (hr0 : Kd.C (Kd.int .i64) w A0 a.length a) (hc0 : a.length ≤ c0) (hm0 : a.length ≤ maxLen) (_ : a.length * 8 ≤ 140737488351232) (_ : ∀ x ∈ a, (Lit.int .i64 x).wf = true)
    (A1 : Option Addr) (c1 : Nat) (hr1 : Kd.C (Kd.int .i64) w A1 b.length b) (hc1 : b.length ≤ c1) (hm1 : b.length ≤ maxLen) (_ : b.length * 8 ≤ 140737488351232) (_ : ∀ x ∈ b, (Lit.int .i64 x).wf = true) :
    Calls Try.prog 11 #[.slice A0 a.length c0, .slice A1 b.length c1, .bool right] w fun e w' => e = .returned (.bool true) ∧ Below w.heap.size w w' := by
  by_cases g : a.length ≤ 150 ∧ b.length ≤ 150
  · cases right
    · exact parts_false a b w _ _ (SLk.mk hr0 hc0) (SLk.mk hr1 hc1) g.1 g.2
    · exact parts_true a b w _ _ (SLk.mk hr0 hc0) (SLk.mk hr1 hc1) g.1 g.2
  · exact partsOutside a b right w A0 A1 c0 c1 hm0 hm1 g
end Go.Proofs.Ytfkgjoflekemaaa
