/- JoinApart answers true: the law's own function, walked over the contracts of slices.Concat and join. -/
import Derived.Test.YtfkgjoflekemaaaCJoin3
import Derived.Test.YtfkgjoflekemaaaCSlices
import Derived.Test.YtfkgjoflekemaaaUJoinApart
import Derived.IntWalk
namespace Go.Proofs.Ytfkgjoflekemaaa
open Go.RowKit Go.Proofs.YtfkgjoflekemaaaW.PrintWords Go.Proofs.Ytfkgjoflekemaaa.U Go.Proofs.Ytfkgjoflekemaaa.CJoin2 Go.Proofs.Ytfkgjoflekemaaa.CJoin3 Go.Proofs.Ytfkgjoflekemaaa.CBase Go.Proofs.Ytfkgjoflekemaaa.UJoin Go.Proofs.Ytfkgjoflekemaaa.CSlices
set_option linter.unusedVariables false
set_option linter.unusedSimpArgs false
set_option maxRecDepth 100000 in
set_option maxHeartbeats 400000 in
theorem joinApartInside (a b c : List Int) (w : World) (va vb vc : Value) (ha : SL w va a) (hb : SL w vb b) (hc : SL w vc c) (ga : a.length ≤ 100) (gb : b.length ≤ 100) (gc : c.length ≤ 100) :
    Calls Try.prog 8 #[va, vb, vc] w fun e w' => e = .returned (.bool true) ∧ Below w.heap.size w w' := by
  have HA := Aside0.mk ha
  have HB := Aside0.mk hb
  have HC := Aside0.mk hc
  obtain ⟨A, ca, rfl, _, _⟩ := ha
  obtain ⟨B, cb, rfl, _, _⟩ := hb
  obtain ⟨C, cc, rfl, _, _⟩ := hc
  have a1 : decide (100 < (a.length : Int)) = false := decide_eq_false (by omega)
  have a2 : decide (100 < a.length) = false := decide_eq_false (by omega)
  have b1 : decide (100 < (b.length : Int)) = false := decide_eq_false (by omega)
  have b2 : decide (100 < b.length) = false := decide_eq_false (by omega)
  have c1 : decide (100 < (c.length : Int)) = false := decide_eq_false (by omega)
  have c2 : decide (100 < c.length) = false := decide_eq_false (by omega)
  have hs : SLs (((w.alloc (.cells #[.int .i64 0] 3)).alloc (.cells #[.int .i64 0] 3)).alloc (.cells #[.slice A a.length ca, .slice (some ⟨w.heap.size, 0, none⟩) 1 1, .slice B b.length cb, .slice (some ⟨w.heap.size + 1, 0, none⟩) 1 1, .slice C c.length cc] 22)) (.slice (some ⟨w.heap.size + 1 + 1, 0, none⟩) 5 5) [a, [0], b, [0], c] := by
    have z0 : SL (w.alloc (.cells #[.int .i64 0] 3)) (.slice (some ⟨w.heap.size, 0, none⟩) 1 1) [0] := SL_lit w 3 [0] (by decide)
    have z1 : SL ((w.alloc (.cells #[.int .i64 0] 3)).alloc (.cells #[.int .i64 0] 3)) (.slice (some ⟨(w.alloc (.cells #[.int .i64 0] 3)).heap.size, 0, none⟩) 1 1) [0] := SL_lit _ 3 [0] (by decide)
    have e1 : (w.alloc (.cells #[.int .i64 0] 3)).heap.size = w.heap.size + 1 := by simp
    have e2 : ((w.alloc (.cells #[.int .i64 0] 3)).alloc (.cells #[.int .i64 0] 3)).heap.size = w.heap.size + 1 + 1 := by simp
    rw [e1] at z1
    have := SLs_lit ((w.alloc (.cells #[.int .i64 0] 3)).alloc (.cells #[.int .i64 0] 3)) 22 [.slice A a.length ca, .slice (some ⟨w.heap.size, 0, none⟩) 1 1, .slice B b.length cb, .slice (some ⟨w.heap.size + 1, 0, none⟩) 1 1, .slice C c.length cc] [a, [0], b, [0], c] (by simp) (fun i x hx => by
      rcases i with _ | _ | _ | _ | _ | i
      · obtain rfl := Option.some.inj hx; exact ⟨_, rfl, SLk.alloc (SLk.alloc HA.out _) _⟩
      · obtain rfl := Option.some.inj hx; exact ⟨_, rfl, SLk.alloc z0 _⟩
      · obtain rfl := Option.some.inj hx; exact ⟨_, rfl, SLk.alloc (SLk.alloc HB.out _) _⟩
      · obtain rfl := Option.some.inj hx; exact ⟨_, rfl, z1⟩
      · obtain rfl := Option.some.inj hx; exact ⟨_, rfl, SLk.alloc (SLk.alloc HC.out _) _⟩
      · simp at hx)
    rw [e2] at this
    exact this
  have HS := Aside0.mk hs
  have HL : Aside0 (a.length ≤ 100 ∧ b.length ≤ 100 ∧ c.length ≤ 100) := ⟨ga, gb, gc⟩
  clear hs
  go_enter Try.func8, Try.ntmps8
  go_wp2_with fail
  refine (concat_c HS.out (by simp) (by simp [total]; omega)).mono ?_
  rintro e w1 ⟨u, rfl, hu, hb⟩
  have hbw : Below w.heap.size w w1 := below_step (below_alloc (below_alloc (below_alloc (Below.refl _ _) _) _) _) hb
  have hf : [a, [0], b, [0], c].flatten = allOf a b c := by simp [allOf]
  rw [hf] at hu
  have hu := SLk.of_R hu
  have hal := all_length a b c
  have hap := forms_apart a b c
  have hfl := formsOf_length (allOf a b c)
  generalize allOf a b c = all at hu hal hap hfl
  have HU := Aside0.mk hu
  have HW := Aside0.mk hbw
  have HAL := Aside0.mk hal
  have HAP := Aside0.mk hap
  have HFL := Aside0.mk hfl
  clear hb hf hbw hal hap hfl
  obtain ⟨U, cu, rfl, _, _⟩ := hu
  go_wp2_with fail
  refine (forms_c _ all _ HU.out (by have := HAL.out; omega)).mono ?_
  rintro e w2 ⟨u2, rfl, hu2, hb⟩
  generalize formsOf all = f at hu2 HAP HFL
  have HW2 := Aside0.mk (below_step HW.out hb)
  obtain ⟨U2, cu2, rfl, hcu, hC2⟩ := hu2
  have HCU := Aside0.mk hcu
  have HC2 := Aside0.mk hC2
  have hne : ((f.length : Int) != (all.length : Int)) = false := by have := HFL.out; simp [this]
  have hx1 : a.length + 1 + b.length ≤ f.length := by have h1 := HFL.out; have h2 := HAL.out; omega
  have hsub : f.length - (a.length + 1) = b.length + 1 + c.length := by have h1 := HFL.out; have h2 := HAL.out; omega
  obtain ⟨i0, hi0, _, hsz0, _⟩ := info_parts info3
  have hcut := cut_mid (P := Try.prog) 22 3 .i64 .i64 Try.underlying22 hi0 1 hsz0 U2 f.length cu2 ((a.length : Int) + 1) ((a.length : Int) + 1 + (b.length : Int)) (by omega) (by omega) (by omega) hcu
  have hcs : SL w2 (.slice (if cu2 = ((a.length : Int) + 1).toNat then U2 else U2.map (·.add (((a.length : Int) + 1).toNat * 1))) (((a.length : Int) + 1 + (b.length : Int)).toNat - ((a.length : Int) + 1).toNat) (cu2 - ((a.length : Int) + 1).toNat)) ((f.drop (a.length + 1)).take b.length) := by
    rw [show ((a.length : Int) + 1).toNat = a.length + 1 by omega, show ((a.length : Int) + 1 + (b.length : Int)).toNat - (a.length + 1) = b.length by omega]
    have h1 := Kd.C_take (m := b.length) (Kd.C_drop (m := a.length + 1) hC2 (by omega) hcu) (by rw [List.length_drop]; omega)
    have hl : ((f.drop (a.length + 1)).take b.length).length = b.length := by rw [List.length_take, List.length_drop]; omega
    refine ⟨_, cu2 - (a.length + 1), ?_, ?_, h1⟩
    · rw [hl]; rfl
    · rw [hl]; omega
  rw [HAP.out] at hcs
  generalize (Value.slice (if cu2 = ((a.length : Int) + 1).toNat then U2 else U2.map (·.add (((a.length : Int) + 1).toNat * 1))) (((a.length : Int) + 1 + (b.length : Int)).toNat - ((a.length : Int) + 1).toNat) (cu2 - ((a.length : Int) + 1).toNat)) = V at hcut hcs
  have HV := Aside0.mk hcs
  clear hb hC2 hcu HU HW hcs hsub hi0
  go_wp2_with fail
  have HBL : Aside0 (b.length ≤ 1000000) := ⟨by omega⟩
  have hq1 : IntKind.i64.wrap ((a.length : Int) + 1) = (a.length : Int) + 1 := IntWalk.i64_in _ (by omega)
  have hq2 : IntKind.i64.wrap ((a.length : Int) + 1 + (b.length : Int)) = (a.length : Int) + 1 + (b.length : Int) := IntWalk.i64_in _ (by omega)
  have HWd : Aside0 (Below w.heap.size w w2.drew) := ⟨below_drew HW2.out⟩
  have HBd : Aside0 (SL w2.drew (.slice B b.length cb) b) := ⟨SLk.below HB.out HWd.out⟩
  have HVd : Aside0 (SL w2.drew V (formsOf b)) := ⟨SLk.below HV.out (below_drew (Below.refl _ _))⟩
  go_region_with (first | (go_at_call 24; refine (forms_c _ b _ HBd.out HBL.out).mono ?_; rintro e w3 ⟨v3, rfl, h3, hb3⟩; have HF3 := Aside0.mk h3; have HV3 := Aside0.mk (SLk.below HVd.out hb3); have HW3 := Aside0.mk (below_step HWd.out hb3); clear h3 hb3) | (go_at_call 20; refine (equal_c HV3.out HF3.out (by rw [formsOf_length]; exact Nat.le_trans HBL.out (by decide))).mono ?_; rw [decide_eq_true rfl]; rintro e w4 ⟨rfl, hb4⟩; have HW4 := Aside0.mk (below_step HW3.out hb4); clear hb4) | (go_at_call 23; refine (awake_c _).mono ?_; rintro e w5 ⟨rfl, hb5⟩; have HW5 := Aside0.mk (below_step HW4.out hb5); clear hb5))
  all_goals
    go_wp2
    go_ret
    exact ⟨rfl, HW5.out⟩
set_option maxRecDepth 100000 in
theorem joinApartOutside (a b c : List Int) (w : World) (A B C : Option Addr) (ca cb cc : Nat) (ha : a.length ≤ maxLen) (hb : b.length ≤ maxLen) (hc : c.length ≤ maxLen) (g : ¬ (a.length ≤ 100 ∧ b.length ≤ 100 ∧ c.length ≤ 100)) :
    Calls Try.prog 8 #[.slice A a.length ca, .slice B b.length cb, .slice C c.length cc] w fun e w' => e = .returned (.bool true) ∧ Below w.heap.size w w' := by
  unfold maxLen at ha hb hc
  by_cases g1 : 100 < a.length
  · have a1 : decide (100 < (a.length : Int)) = true := decide_eq_true (by omega)
    have a2 : decide (100 < a.length) = true := decide_eq_true g1
    clear g g1
    go_enter Try.func8, Try.ntmps8
    go_wp2_with fail
    refine (awake_c _).mono ?_
    rintro e w1 ⟨rfl, hb⟩
    go_wp2
    go_ret
    exact ⟨rfl, hb⟩
  have a1 : decide (100 < (a.length : Int)) = false := decide_eq_false (by omega)
  have a2 : decide (100 < a.length) = false := decide_eq_false g1
  by_cases g2 : 100 < b.length
  · have b1 : decide (100 < (b.length : Int)) = true := decide_eq_true (by omega)
    have b2 : decide (100 < b.length) = true := decide_eq_true g2
    clear g g1 g2
    go_enter Try.func8, Try.ntmps8
    go_wp2_with fail
    refine (awake_c _).mono ?_
    rintro e w1 ⟨rfl, hb⟩
    go_wp2
    go_ret
    exact ⟨rfl, hb⟩
  have b1 : decide (100 < (b.length : Int)) = false := decide_eq_false (by omega)
  have b2 : decide (100 < b.length) = false := decide_eq_false g2
  have g3 : 100 < c.length := by omega
  have c1 : decide (100 < (c.length : Int)) = true := decide_eq_true (by omega)
  have c2 : decide (100 < c.length) = true := decide_eq_true g3
  clear g g1 g2 g3
  go_enter Try.func8, Try.ntmps8
  go_wp2_with fail
  refine (awake_c _).mono ?_
  rintro e w1 ⟨rfl, hb⟩
  go_wp2
  go_ret
  exact ⟨rfl, hb⟩
theorem joinApartWalk (a b c : List Int) (w : World)
    (A0 : Option Addr) (c0 : Nat) (hr0 : Kd.C (Kd.int .i64) w A0 a.length a) (hc0 : a.length ≤ c0) (hm0 : a.length ≤ maxLen) (_ : a.length * 8 ≤ 140737488351232) (_ : ∀ x ∈ a, (Lit.int .i64 x).wf = true)
    (A1 : Option Addr) (c1 : Nat) (hr1 : Kd.C (Kd.int .i64) w A1 b.length b) (hc1 : b.length ≤ c1) (hm1 : b.length ≤ maxLen) (_ : b.length * 8 ≤ 140737488351232) (_ : ∀ x ∈ b, (Lit.int .i64 x).wf = true)
    (A2 : Option Addr) (c2 : Nat) (hr2 : Kd.C (Kd.int .i64) w A2 c.length c) (hc2 : c.length ≤ c2) (hm2 : c.length ≤ maxLen) (_ : c.length * 8 ≤ 140737488351232) (_ : ∀ x ∈ c, (Lit.int .i64 x).wf = true) :
    Calls Try.prog 8 #[.slice A0 a.length c0, .slice A1 b.length c1, .slice A2 c.length c2] w fun e w' => e = .returned (.bool true) ∧ Below w.heap.size w w' := by
  by_cases g : a.length ≤ 100 ∧ b.length ≤ 100 ∧ c.length ≤ 100
  · exact joinApartInside a b c w _ _ _ (SLk.mk hr0 hc0) (SLk.mk hr1 hc1) (SLk.mk hr2 hc2) g.1 g.2.1 g.2.2
  · exact joinApartOutside a b c w A0 A1 A2 c0 c1 c2 hm0 hm1 hm2 g
end Go.Proofs.Ytfkgjoflekemaaa
