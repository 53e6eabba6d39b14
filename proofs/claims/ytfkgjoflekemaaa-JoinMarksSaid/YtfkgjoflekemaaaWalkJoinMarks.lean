/- JoinMarks answers true: the law's own function, walked over the contracts of join.Forms and of slices.Clone, Insert, Delete, Equal. -/
import Derived.Test.YtfkgjoflekemaaaCJoin
import Derived.Test.YtfkgjoflekemaaaCInsert
import Derived.Test.YtfkgjoflekemaaaUJoinMarks
namespace Go.Proofs.Ytfkgjoflekemaaa
open Go.RowKit Go.Proofs.YtfkgjoflekemaaaW.PrintWords Go.Proofs.Ytfkgjoflekemaaa.U Go.Proofs.Ytfkgjoflekemaaa.UJoin Go.Proofs.Ytfkgjoflekemaaa.UJoinMarks Go.Proofs.Ytfkgjoflekemaaa.CBase Go.Proofs.Ytfkgjoflekemaaa.CSlices Go.Proofs.Ytfkgjoflekemaaa.CJoin Go.Proofs.Ytfkgjoflekemaaa.CJoin2 Go.Proofs.Ytfkgjoflekemaaa.CInsert
set_option linter.unusedVariables false
set_option linter.unusedSimpArgs false
set_option maxRecDepth 100000 in
set_option maxHeartbeats 2000000 in
theorem joinMarksWalk (types : List Int) (at_ : Int) (w : World) (A0 : Option Addr) (c0 : Nat) (hr0 : Kd.C (Kd.int .i64) w A0 types.length types) (hc0 : types.length ≤ c0) (hm0 : types.length ≤ maxLen) (_ : types.length * 8 ≤ 140737488351232) (_ : ∀ x ∈ types, (Lit.int .i64 x).wf = true) (ha : (Lit.int .u8 at_).wf = true) :
    Calls Try.prog 14 #[.slice A0 types.length c0, .int .u8 at_] w fun e w' => e = .returned (.bool true) ∧ Below w.heap.size w w' := by
  unfold maxLen at hm0
  have H := Aside0.mk (SLk.mk hr0 hc0)
  clear hr0 hc0
  by_cases g : 200 < types.length
  · have g1 : decide (200 < (types.length : Int)) = true := decide_eq_true (by omega)
    have g2 : decide (200 < types.length) = true := decide_eq_true g
    clear g
    go_enter Try.func14, Try.ntmps14
    go_wp2_with fail
    refine (awake_c _).mono ?_
    rintro e w1 ⟨rfl, hb⟩
    go_wp2
    go_ret
    exact ⟨rfl, hb⟩
  · have g1 : decide (200 < (types.length : Int)) = false := decide_eq_false (by omega)
    have g2 : decide (200 < types.length) = false := decide_eq_false g
    have HM := Aside0.mk (show types.length ≤ 200 by omega)
    clear g
    have hK : ∃ k : Nat, (wrap64 at_).tmod ((types.length : Int) + 1) = k ∧ k ≤ types.length := by
      have h1 : 0 ≤ at_ ∧ at_ ≤ 255 := by
        unfold Lit.wf at ha
        rw [Bool.and_eq_true, decide_eq_true_iff, decide_eq_true_iff] at ha
        exact ⟨ha.1, ha.2⟩
      rw [w64 (by omega) (by omega)]
      have e : (((at_.toNat) % (types.length + 1) : Nat) : Int) = at_.tmod ((types.length : Int) + 1) := by
        rw [Int.tmod_eq_emod_of_nonneg h1.1]
        have : at_ = (at_.toNat : Int) := by omega
        rw [this]
        simp
      exact ⟨at_.toNat % (types.length + 1), e.symm, by have := Nat.mod_lt at_.toNat (show 0 < types.length + 1 by omega); omega⟩
    obtain ⟨k, hk, hkl⟩ := hK
    have HK := Aside0.mk hkl
    have HKE := Aside0.mk hk
    clear hk hkl ha
    go_enter Try.func14, Try.ntmps14
    go_wp2_with fail
    rw [HKE.out]
    refine (clone_c H.out (by have := HM.out; omega)).mono ?_
    rintro e w1 ⟨u, rfl, hu, hb⟩
    have HU := Aside0.mk hu
    have HB := Aside0.mk hb
    clear hu hb
    go_wp2_with fail
    refine (insert_c HU.out HB.out HB.out.size k HK.out 1 (by have := HM.out; omega)).mono ?_
    rintro e w2 ⟨u2, rfl, hu, hb⟩
    have HU2 := Aside0.mk (show SL w2 u2 (ins types k) from hu)
    have HB2 := Aside0.mk hb
    clear hu hb HU HB
    go_wp2_with fail
    obtain ⟨A2, c2, e2, hl2, hC2⟩ := HU2.out
    subst e2
    refine (forms_any A2 c2 (ins types k) _ (by rw [ins_length _ _ HK.out]; have := HM.out; omega) hC2).mono ?_
    rintro e w3 ⟨u3, rfl, hu, hb⟩
    have hfl := formsOf_length (ins types k)
    rw [ins_length _ _ HK.out] at hfl
    have HFA := Aside0.mk (forms_at types k HK.out)
    have HFI := Aside0.mk (forms_ins types k HK.out)
    have HR3 := Aside0.mk (Kd.R_lower hu HB2.out.size)
    have HB3 := Aside0.mk (below_step HB2.out hb)
    generalize formsOf (ins types k) = f at hfl HFA HFI HR3
    have HFL := Aside0.mk hfl
    obtain ⟨A3, c3, e3, hl3, hC3⟩ := Kd.R_reads HR3.out
    subst e3
    have HC3 := Aside0.mk hC3
    clear hu hb HU2 HB2 hC2 hC3 hl2 hl3
    have hkf : (k : Int) < (f.length : Int) := by have := HK.out; omega
    have hfe : ((f.length : Int) != (types.length : Int) + 1) = false := by simp; omega
    obtain ⟨ad, ea, hx⟩ := Kd.at_int HC3.out (k : Int) (by omega) hkf
    cases ea
    rw [HFA.out] at hx
    simp only [Int.toNat_natCast] at hx
    clear hfl
    go_wp2_with fail
    rw [w64 (n := (k : Int) + 1) (by omega) (by have := HM.out; have := HK.out; omega)]
    refine (delete_c HR3.out HB3.out k (by omega) (by have := HM.out; have := HFL.out; omega)).mono ?_
    rintro e w4 ⟨u4, rfl, hu, hb⟩
    rw [HFI.out] at hu
    have HU4 := Aside0.mk hu
    have HB4 := Aside0.mk hb
    clear hu hb HR3 HB3 hx
    go_wp2_with fail
    obtain ⟨A5, c5, e5, hl5, hC5⟩ := SLk.below H.out HB4.out
    injection e5 with e51 e52 e53
    subst e51
    refine (forms_any A0 c0 types _ (by have := HM.out; omega) hC5).mono ?_
    rintro e w5 ⟨u5, rfl, hu, hb⟩
    have HV5 := Aside0.mk (SLk.of_R hu)
    have HU5 := Aside0.mk (SLk.below HU4.out hb)
    have HB5 := Aside0.mk (below_step HB4.out hb)
    clear hu hb HU4 HB4 hC5 hl5 e52 e53
    go_wp2_with fail
    refine (equal_c HU5.out HV5.out (by rw [formsOf_length]; have := HM.out; omega)).mono ?_
    rw [decide_eq_true rfl]
    rintro e w6 ⟨rfl, hb⟩
    have HB6 := Aside0.mk (below_step HB5.out hb)
    clear hb HB5
    go_wp2_with fail
    refine (awake_c _).mono ?_
    rintro e w7 ⟨rfl, hb⟩
    have HB7 := Aside0.mk (below_step HB6.out hb)
    clear hb HB6
    go_wp2
    go_ret
    exact ⟨rfl, HB7.out⟩
end Go.Proofs.Ytfkgjoflekemaaa
