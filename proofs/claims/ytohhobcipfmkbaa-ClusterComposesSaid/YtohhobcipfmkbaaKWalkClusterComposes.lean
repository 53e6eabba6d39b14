/- Texts of this claim, cut to what it needs. -/
import Derived.Test.YtohhobcipfmkbaaKCRefComp
import Derived.Test.YtohhobcipfmkbaaKCFin2
namespace Go.Proofs.Ytohhobcipfmkbaa
open Go.RowKit Go.Maps Go.Proofs.YtohhobcipfmkbaaW.PrintWords Go.Proofs.YtohhobcipfmkbaaW.PrintMore Go.Proofs.YtohhobcipfmkbaaW.PrintLast Go.Proofs.Ytohhobcipfmkbaa.U Go.Proofs.Ytohhobcipfmkbaa.PClusterFinest Go.Proofs.Ytohhobcipfmkbaa.UFinest Go.Proofs.Ytohhobcipfmkbaa.UFinEv Go.Proofs.Ytohhobcipfmkbaa.CFin Go.Proofs.Ytohhobcipfmkbaa.UWhole
set_option linter.unusedVariables false
set_option linter.unusedSimpArgs false
theorem few_hi : ∀ (l : List S45) (i : Nat), fewB l i = true → ∀ x ∈ l, x.f0.f1 ≤ 60 ∧ x.f1.f1 ≤ 60
  | [], i, _, x, hx => by cases hx
  | y :: r, i, h, x, hx => by
    unfold fewB at h
    split at h
    · cases h
    · rename_i hc
      rcases List.mem_cons.1 hx with rfl | hx
      · omega
      · exact few_hi r (i + 1) h x hx
theorem end_few (l : List S45) (h : fewB l 0 = true) : (0 ≤ endS (l.map (·.f0)) ∧ endS (l.map (·.f0)) ≤ 60) ∧ 0 ≤ endS (l.map (·.f1)) ∧ endS (l.map (·.f1)) ≤ 60 := by
  have hh := few_hi l 0 h
  refine ⟨⟨(endS_ge _ 0).1, endS_le 60 _ (fun x hx => ?_) 0 (by decide)⟩, (endS_ge _ 0).1, endS_le 60 _ (fun x hx => ?_) 0 (by decide)⟩
  · obtain ⟨z, hz, rfl⟩ := List.mem_map.1 hx; exact (hh z hz).1
  · obtain ⟨z, hz, rfl⟩ := List.mem_map.1 hx; exact (hh z hz).2
set_option maxRecDepth 100000 in
set_option maxHeartbeats 4000000 in
theorem clusterComposesWalk (a b : List S45) (w : World) (A : Option Addr) (ca : Nat) (hra : Kd.C k45 w A a.length a) (hca : a.length ≤ ca) (B : Option Addr) (cb : Nat) (hrb : Kd.C k45 w B b.length b) (hcb : b.length ≤ cb) :
    Calls Try.prog 9 #[.slice A a.length ca, .slice B b.length cb] w fun e w' => e = .returned (.bool true) ∧ Below w.heap.size w w' := by
  have HA := Aside0.mk (SLk.mk hra hca)
  have HQ := Aside0.mk (SLk.mk hrb hcb)
  clear hra hca hrb hcb
  obtain ⟨fa, hfa⟩ : ∃ fa, fewB a 0 = fa := ⟨_, rfl⟩
  obtain ⟨fb, hfb⟩ : ∃ fb, fewB b 0 = fb := ⟨_, rfl⟩
  have HFA := Aside0.mk hfa
  have HFB := Aside0.mk hfb
  have T0 : Aside0 True := ⟨trivial⟩
  clear hfa hfb
  go_enter Try.func9, Try.ntmps9
  cases fa with
  | false =>
    go_wp2_with (first | (go_at_call 31; have tk := T0.out; clear T0 tk; refine (few_c HA.out).mono ?_; rintro e w1 ⟨rfl, hb1⟩; rw [HFA.out]; have HB1 := Aside0.mk hb1; have HA1 := Aside0.mk (SLk.below HA.out hb1); have HQ1 := Aside0.mk (SLk.below HQ.out hb1); clear hb1) | (go_at_call 28; refine awake_c.mono ?_; rintro e w9 ⟨rfl, hb9⟩; have HB9 := Aside0.mk hb9; clear hb9))
    go_ret
    exact ⟨rfl, below_step HB1.out HB9.out⟩
  | true =>
    cases fb with
    | false =>
      go_wp2_with (first | (go_at_call 31; have tk := T0.out; clear T0 tk; refine (few_c HA.out).mono ?_; rintro e w1 ⟨rfl, hb1⟩; rw [HFA.out]; have HB1 := Aside0.mk hb1; have HA1 := Aside0.mk (SLk.below HA.out hb1); have HQ1 := Aside0.mk (SLk.below HQ.out hb1); clear hb1) | (go_at_call 31; refine (few_c HQ1.out).mono ?_; rintro e w2 ⟨rfl, hb2⟩; rw [HFB.out]; have HB2 : Aside0 (Below w.heap.size w w2) := ⟨below_step HB1.out hb2⟩; have HA2 := Aside0.mk (SLk.below HA1.out hb2); have HQ2 := Aside0.mk (SLk.below HQ1.out hb2); clear hb2) | (go_at_call 28; refine awake_c.mono ?_; rintro e w9 ⟨rfl, hb9⟩; have HB9 := Aside0.mk hb9; clear hb9))
      go_ret
      exact ⟨rfl, below_step HB2.out HB9.out⟩
    | true =>
      have HLA : Aside0 (a.length ≤ 30) := ⟨by have := few_len a 0 HFA.out (by omega); omega⟩
      have HLB : Aside0 (b.length ≤ 30) := ⟨by have := few_len b 0 HFB.out (by omega); omega⟩
      have HEA := Aside0.mk (end_few a HFA.out)
      have HEB := Aside0.mk (end_few b HFB.out)
      have HLC : Aside0 ((compL a b).length ≤ 900) := ⟨by
        have h1 := compL_len a b
        have h2 := Nat.mul_le_mul HLA.out HLB.out
        omega⟩
      obtain ⟨r1, hr1⟩ : ∃ r1, r1 = CSort.checkB (endS (a.map (·.f0))) (endS (a.map (·.f1))) a (CSort.sortL (a.map (·.f1))) := ⟨_, rfl⟩
      obtain ⟨r2, hr2⟩ : ∃ r2, r2 = CSort.checkB (endS (a.map (·.f1))) (endS (b.map (·.f1))) b (CSort.sortL (b.map (·.f1))) := ⟨_, rfl⟩
      have HR1 : Aside0 (∀ d, Srt d a → CSort.checkB (endS (a.map (·.f0))) (endS (a.map (·.f1))) a d = r1) := ⟨fun d hd => by rw [hr1]; exact check_same _ _ a d hd.1 hd.2⟩
      have HR2 : Aside0 (∀ d, Srt d b → CSort.checkB (endS (a.map (·.f1))) (endS (b.map (·.f1))) b d = r2) := ⟨fun d hd => by rw [hr2]; exact check_same _ _ b d hd.1 hd.2⟩
      clear hr1 hr2
      by_cases hno : (r1 && r2) = false
      · have HNO := Aside0.mk hno
        clear hno
        go_wp2_with (first | (go_at_call 31; have tk := T0.out; clear T0 tk; refine (few_c HA.out).mono ?_; rintro e w1 ⟨rfl, hb1⟩; rw [HFA.out]; have HB1 := Aside0.mk hb1; have HA1 := Aside0.mk (SLk.below HA.out hb1); have HQ1 := Aside0.mk (SLk.below HQ.out hb1); clear hb1) | (go_at_call 31; refine (few_c HQ1.out).mono ?_; rintro e w2 ⟨rfl, hb2⟩; rw [HFB.out]; have HB2 : Aside0 (Below w.heap.size w w2) := ⟨below_step HB1.out hb2⟩; have HA2 := Aside0.mk (SLk.below HA1.out hb2); have HQ2 := Aside0.mk (SLk.below HQ1.out hb2); clear hb2) | (go_at_call 38; refine (comp_no HA2.out HQ2.out (by have := HLA.out; omega) (by have := HLB.out; omega) r1 r2 HR1.out HR2.out HNO.out).mono ?_; rintro e w3 ⟨rfl, hb3⟩; have HB3 : Aside0 (Below w.heap.size w w3) := ⟨below_step HB2.out hb3⟩; have HA3 := Aside0.mk (SLk.below HA2.out hb3); have HQ3 := Aside0.mk (SLk.below HQ2.out hb3); clear hb3) | (go_at_call 39; refine (refComp_no HA3.out HQ3.out (by have := HLA.out; omega) (by have := HLB.out; omega) r1 r2 HR1.out HR2.out HNO.out).mono ?_; rintro e w4 ⟨rfl, hb4⟩; have HB4 : Aside0 (Below w.heap.size w w4) := ⟨below_step HB3.out hb4⟩; clear hb4) | (go_at_call 23; refine (eq45_c (xs := []) (nil_slk _) (nil_slk _) (by decide)).mono ?_; rintro e w5 ⟨rfl, hd5⟩; have HB5 : Aside0 (Below w.heap.size w w5) := ⟨below_step HB4.out (drawn0_below hd5)⟩; clear hd5) | (go_at_call 28; refine awake_c.mono ?_; rintro e w9 ⟨rfl, hb9⟩; have HB9 := Aside0.mk hb9; clear hb9))
        go_ret
        exact ⟨rfl, below_step HB5.out HB9.out⟩
      · have h12 : r1 = true ∧ r2 = true := by revert hno; cases r1 <;> cases r2 <;> simp
        obtain ⟨rfl, rfl⟩ := h12
        clear hno
        by_cases hbad : wrongR (endS (a.map (·.f0))) (endS (b.map (·.f1))) (compL a b) ≠ 0 ∨ endS (a.map (·.f0)) = 0
        · have HBAD := Aside0.mk hbad
          obtain ⟨wr, hwr⟩ : ∃ wr, wr = wrongR (endS (a.map (·.f0))) (endS (b.map (·.f1))) (compL a b) := ⟨_, rfl⟩
          have HWR := Aside0.mk hwr
          clear hbad hwr
          go_wp2_with (first | (go_at_call 31; have tk := T0.out; clear T0 tk; refine (few_c HA.out).mono ?_; rintro e w1 ⟨rfl, hb1⟩; rw [HFA.out]; have HB1 := Aside0.mk hb1; have HA1 := Aside0.mk (SLk.below HA.out hb1); have HQ1 := Aside0.mk (SLk.below HQ.out hb1); clear hb1) | (go_at_call 31; refine (few_c HQ1.out).mono ?_; rintro e w2 ⟨rfl, hb2⟩; rw [HFB.out]; have HB2 : Aside0 (Below w.heap.size w w2) := ⟨below_step HB1.out hb2⟩; have HA2 := Aside0.mk (SLk.below HA1.out hb2); have HQ2 := Aside0.mk (SLk.below HQ1.out hb2); clear hb2) | (go_at_call 38; refine (comp_yes HA2.out HQ2.out (by have := HLA.out; omega) (by have := HLB.out; omega) (fun u r _ => u = .slice none 0 0 ∧ wr = r) HR1.out HR2.out (fun w1 u hs hb => (finest_bad _ _ hs (by have := HLC.out; omega) HBAD.out).mono (by rintro e w' ⟨rfl, hb⟩; exact ⟨_, _, rfl, ⟨rfl, HWR.out⟩, hb⟩))).mono ?_; rintro e w3 ⟨u, r, rfl, ⟨rfl, rfl⟩, hb3⟩; have HB3 : Aside0 (Below w.heap.size w w3) := ⟨below_step HB2.out hb3⟩; have HA3 := Aside0.mk (SLk.below HA2.out hb3); have HQ3 := Aside0.mk (SLk.below HQ2.out hb3); clear hb3) | (go_at_call 39; refine (refComp_yes HA3.out HQ3.out (by have := HLA.out; omega) (by have := HLB.out; omega) (fun u r _ => u = .slice none 0 0 ∧ wr = r) HR1.out HR2.out (fun w1 u hs hb => (refFinest_bad _ _ hs (by have := HLC.out; omega) HBAD.out).mono (by rintro e w' ⟨rfl, hb⟩; exact ⟨_, _, rfl, ⟨rfl, HWR.out⟩, hb⟩))).mono ?_; rintro e w4 ⟨u, r, rfl, ⟨rfl, rfl⟩, hb4⟩; have HB4 : Aside0 (Below w.heap.size w w4) := ⟨below_step HB3.out hb4⟩; clear hb4) | (go_at_call 23; refine (eq45_c (xs := []) (nil_slk _) (nil_slk _) (by decide)).mono ?_; rintro e w5 ⟨rfl, hd5⟩; have HB5 : Aside0 (Below w.heap.size w w5) := ⟨below_step HB4.out (drawn0_below hd5)⟩; clear hd5) | (go_at_call 28; refine awake_c.mono ?_; rintro e w9 ⟨rfl, hb9⟩; have HB9 := Aside0.mk hb9; clear hb9))
          go_ret
          exact ⟨rfl, below_step HB5.out HB9.out⟩
        · have hw : wrongR (endS (a.map (·.f0))) (endS (b.map (·.f1))) (compL a b) = 0 ∧ endS (a.map (·.f0)) ≠ 0 := ⟨Decidable.byContradiction fun e => hbad (.inl e), fun e => hbad (.inr e)⟩
          obtain ⟨N, hN⟩ : ∃ N : Nat, endS (a.map (·.f0)) = (N : Int) := ⟨(endS (a.map (·.f0))).toNat, by have := HEA.out; omega⟩
          obtain ⟨M, hM⟩ : ∃ M : Nat, endS (b.map (·.f1)) = (M : Int) := ⟨(endS (b.map (·.f1))).toNat, by have := HEB.out; omega⟩
          rw [hN, hM] at hw
          have hM0 : M ≠ 0 := fun e => by
            subst e
            have h1 := hw.1
            unfold wrongR at h1
            split at h1
            · cases h1
            · split at h1
              · unfold wrongIn at h1
                rw [if_pos ⟨rfl, by omega⟩] at h1
                cases h1
              · cases h1
          have HW := Aside0.mk hw.1
          have HN0 : Aside0 (0 < N ∧ N ≤ 60) := ⟨by have := HEA.out; omega⟩
          have HM0 : Aside0 (0 < M ∧ M ≤ 60) := ⟨by have := HEB.out; omega⟩
          have HNE := Aside0.mk hN
          have HME := Aside0.mk hM
          have HLK := Aside0.mk (wrong_ok HN0.out.1 HM0.out.1 hw.1).1
          clear hbad hw hM0 hN hM
          go_wp2_with (first | (go_at_call 31; have tk := T0.out; clear T0 tk; refine (few_c HA.out).mono ?_; rintro e w1 ⟨rfl, hb1⟩; rw [HFA.out]; have HB1 := Aside0.mk hb1; have HA1 := Aside0.mk (SLk.below HA.out hb1); have HQ1 := Aside0.mk (SLk.below HQ.out hb1); clear hb1) | (go_at_call 31; refine (few_c HQ1.out).mono ?_; rintro e w2 ⟨rfl, hb2⟩; rw [HFB.out]; have HB2 : Aside0 (Below w.heap.size w w2) := ⟨below_step HB1.out hb2⟩; have HA2 := Aside0.mk (SLk.below HA1.out hb2); have HQ2 := Aside0.mk (SLk.below HQ1.out hb2); clear hb2) | (go_at_call 38; refine (comp_yes HA2.out HQ2.out (by have := HLA.out; omega) (by have := HLB.out; omega) (fun u r w' => r = 0 ∧ ∃ L, FinOk N M ((compL a b).map lkOf) L ∧ SLk k45 w' u (cluS N M L N)) HR1.out HR2.out (fun w1 u hs hb => by rw [HNE.out, HME.out]; exact (finest_c N M hs (by have := HLC.out; omega) HN0.out.1 HM0.out.1 (by have := HN0.out; have := HM0.out; omega) HW.out).mono (by rintro e w' ⟨u, L, rfl, hf, hR, hb⟩; exact ⟨_, _, rfl, ⟨rfl, L, hf, SLk.of_R hR⟩, hb⟩))).mono ?_; rintro e w3 ⟨u, r, rfl, ⟨rfl, L, hf, hS⟩, hb3⟩; have HF := Aside0.mk hf; have HU3 := Aside0.mk hS; have HB3 : Aside0 (Below w.heap.size w w3) := ⟨below_step HB2.out hb3⟩; have HA3 := Aside0.mk (SLk.below HA2.out hb3); have HQ3 := Aside0.mk (SLk.below HQ2.out hb3); clear hb3 hf hS) | (go_at_call 39; refine (refComp_yes HA3.out HQ3.out (by have := HLA.out; omega) (by have := HLB.out; omega) (fun u r w' => r = 0 ∧ ∃ L, FinOk N M ((compL a b).map lkOf) L ∧ SLk k45 w' u (cluS N M L N)) HR1.out HR2.out (fun w1 u hs hb => by rw [HNE.out, HME.out]; exact (refFinest_c N M hs (by have := HLC.out; omega) HN0.out.1 (by have := HN0.out; omega) HM0.out.1 (by have := HM0.out; omega) HW.out HLK.out).mono (by rintro e w' ⟨u, L, rfl, hf, hR, hb⟩; exact ⟨_, _, rfl, ⟨rfl, L, hf, SLk.of_R hR⟩, hb⟩))).mono ?_; rintro e w4 ⟨u2, r, rfl, ⟨rfl, L2, hf, hS⟩, hb4⟩; have HU4 : Aside0 (SLk k45 w4 u2 (cluS N M L N)) := ⟨by have e : cluS N M L N = cluS N M L2 N := (by unfold cluS; rw [cluTo_same (FinOk.same HF.out hf)]); rw [e]; exact hS⟩; have HUA := Aside0.mk (SLk.below HU3.out hb4); have HB4 : Aside0 (Below w.heap.size w w4) := ⟨below_step HB3.out hb4⟩; clear hb4 hf hS) | (go_at_call 23; refine (eq45_c HUA.out HU4.out (by have := cluS_len N M L N; have := HN0.out; omega)).mono ?_; rintro e w5 ⟨rfl, hd5⟩; have HB5 : Aside0 (Below w.heap.size w w5) := ⟨below_step HB4.out (drawn0_below hd5)⟩; clear hd5) | (go_at_call 28; refine awake_c.mono ?_; rintro e w9 ⟨rfl, hb9⟩; have HB9 := Aside0.mk hb9; clear hb9))
          go_ret
          exact ⟨rfl, below_step HB5.out HB9.out⟩
end Go.Proofs.Ytohhobcipfmkbaa
