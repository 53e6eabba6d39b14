/- Texts of this claim, cut to what it needs. -/
import Derived.Test.YtohhobcipfmkbaaKCTurnC
import Derived.Test.YtohhobcipfmkbaaKCIdent
import Derived.Test.YtohhobcipfmkbaaKCComp
namespace Go.Proofs.Ytohhobcipfmkbaa
open Go.RowKit Go.Maps Go.Proofs.YtohhobcipfmkbaaW.PrintWords Go.Proofs.YtohhobcipfmkbaaW.PrintMore Go.Proofs.YtohhobcipfmkbaaW.PrintLast Go.Proofs.Ytohhobcipfmkbaa.U Go.Proofs.Ytohhobcipfmkbaa.PClusterFinest Go.Proofs.Ytohhobcipfmkbaa.UFinest Go.Proofs.Ytohhobcipfmkbaa.CFin Go.Proofs.Ytohhobcipfmkbaa.UFinEv Go.Proofs.Ytohhobcipfmkbaa.UTurn Go.Proofs.Ytohhobcipfmkbaa.CTurn Go.Proofs.Ytohhobcipfmkbaa.UWhole
set_option linter.unusedVariables false
set_option linter.unusedSimpArgs false
theorem turn_check {n m : Nat} {r : Lab} (h : MapOk n m r) (d : List S33) (hp : d.Perm ((turnT (cluS n m r n)).map (·.f1))) (hs : d.Pairwise (fun a b => ¬ b.f0 < a.f0)) : CSort.checkB m n (turnT (cluS n m r n)) d = true := by
  have hp1 : (turnT (cluS n m r n)).Perm ((cluS n m r n).map swp) := sortT_perm _
  have e1 : ((cluS n m r n).map swp).map (·.f1) = (cluS n m r n).map (·.f0) := by rw [List.map_map]; rfl
  have e0 : ((cluS n m r n).map swp).map (·.f0) = (cluS n m r n).map (·.f1) := by rw [List.map_map]; rfl
  unfold CSort.checkB
  have h1 : CSort.partsTo m ((turnT (cluS n m r n)).map (·.f0)) 0 = true := by
    refine outs_parts h _ ?_ ?_
    · rw [← e0]; exact hp1.map _
    · rw [List.pairwise_map]; exact sortT_sorted _
  have h2 : CSort.partsTo n d 0 = true := by
    have hp2 : d.Perm ((cluS n m r n).map (·.f0)) := by rw [← e1]; exact hp.trans (hp1.map _)
    rw [CSort.parts_perm n d _ hp2 hs (by rw [List.pairwise_map]; exact List.Pairwise.imp (fun {a b} hab => by omega) (ins_sorted h)) 0]
    exact ins_parts h
  rw [h1, h2]
  rfl
theorem turn_len (l : List S45) : (turnT l).length = l.length := by unfold turnT; rw [sortT_len, List.length_map]
set_option maxRecDepth 100000 in
set_option maxHeartbeats 8000000 in
theorem clusterSameWalk (n m : Int) (l : List S45) (w : World) (_ : (Lit.int .i64 n).wf = true) (_ : (Lit.int .i64 m).wf = true) (A : Option Addr) (c : Nat) (hr : Kd.C k45 w A l.length l) (hc : l.length ≤ c) :
    Calls Try.prog 10 #[.int .i64 n, .int .i64 m, .slice A l.length c] w fun e w' => e = .returned (.bool true) ∧ Below w.heap.size w w' := by
  have H := Aside0.mk (SLk.mk hr hc)
  clear hr hc
  obtain ⟨b, hb⟩ : ∃ b, fewB l 0 = b := ⟨_, rfl⟩
  have HBV := Aside0.mk hb
  clear hb
  go_enter Try.func10, Try.ntmps10
  cases b with
  | false =>
    go_wp2_with (first | (go_at_call 31; refine (few_c H.out).mono ?_; rintro e w1 ⟨rfl, hb1⟩; rw [HBV.out]; have HB1 := Aside0.mk hb1; have H1 := Aside0.mk (SLk.below H.out hb1); clear hb1) | (go_at_call 28; refine awake_c.mono ?_; rintro e w99 ⟨rfl, hb99⟩; have HB99 := Aside0.mk hb99; clear hb99))
    go_ret
    exact ⟨rfl, below_step HB1.out HB99.out⟩
  | true =>
    have HLEN : Aside0 (l.length ≤ 30) := ⟨by have := few_len l 0 HBV.out (by omega); omega⟩
    by_cases gn0 : n < 0
    · go_wp2_with (first | (go_at_call 31; refine (few_c H.out).mono ?_; rintro e w1 ⟨rfl, hb1⟩; rw [HBV.out]; have HB1 := Aside0.mk hb1; have H1 := Aside0.mk (SLk.below H.out hb1); clear hb1) | (go_at_call 28; refine awake_c.mono ?_; rintro e w99 ⟨rfl, hb99⟩; have HB99 := Aside0.mk hb99; clear hb99))
      go_ret
      exact ⟨rfl, below_step HB1.out HB99.out⟩
    by_cases gn4 : n > 40
    · go_wp2_with (first | (go_at_call 31; refine (few_c H.out).mono ?_; rintro e w1 ⟨rfl, hb1⟩; rw [HBV.out]; have HB1 := Aside0.mk hb1; have H1 := Aside0.mk (SLk.below H.out hb1); clear hb1) | (go_at_call 28; refine awake_c.mono ?_; rintro e w99 ⟨rfl, hb99⟩; have HB99 := Aside0.mk hb99; clear hb99))
      go_ret
      exact ⟨rfl, below_step HB1.out HB99.out⟩
    by_cases gm0 : m < 0
    · go_wp2_with (first | (go_at_call 31; refine (few_c H.out).mono ?_; rintro e w1 ⟨rfl, hb1⟩; rw [HBV.out]; have HB1 := Aside0.mk hb1; have H1 := Aside0.mk (SLk.below H.out hb1); clear hb1) | (go_at_call 28; refine awake_c.mono ?_; rintro e w99 ⟨rfl, hb99⟩; have HB99 := Aside0.mk hb99; clear hb99))
      go_ret
      exact ⟨rfl, below_step HB1.out HB99.out⟩
    by_cases gm4 : m > 40
    · go_wp2_with (first | (go_at_call 31; refine (few_c H.out).mono ?_; rintro e w1 ⟨rfl, hb1⟩; rw [HBV.out]; have HB1 := Aside0.mk hb1; have H1 := Aside0.mk (SLk.below H.out hb1); clear hb1) | (go_at_call 28; refine awake_c.mono ?_; rintro e w99 ⟨rfl, hb99⟩; have HB99 := Aside0.mk hb99; clear hb99))
      go_ret
      exact ⟨rfl, below_step HB1.out HB99.out⟩
    obtain ⟨N, rfl⟩ : ∃ N : Nat, n = (N : Int) := ⟨n.toNat, by omega⟩
    obtain ⟨M, rfl⟩ : ∃ M : Nat, m = (M : Int) := ⟨m.toNat, by omega⟩
    have HNM : Aside0 (N ≤ 40 ∧ M ≤ 40) := ⟨by omega, by omega⟩
    by_cases hwr : wrongR N M l ≠ 0
    · have HWR := Aside0.mk hwr
      obtain ⟨wr, hwe⟩ : ∃ wr, wr = wrongR N M l := ⟨_, rfl⟩
      have HWE := Aside0.mk hwe
      have hw0 : ¬ wr = 0 := by rw [hwe]; exact hwr
      clear hwr hwe
      go_wp2_with (first | (go_at_call 31; refine (few_c H.out).mono ?_; rintro e w1 ⟨rfl, hb1⟩; rw [HBV.out]; have HB1 := Aside0.mk hb1; have H1 := Aside0.mk (SLk.below H.out hb1); clear hb1) | (go_at_call 32; refine (finest_bad N M H1.out (by have := HLEN.out; omega) (.inl HWR.out)).mono ?_; rintro e w3 ⟨rfl, hb3⟩; rw [← HWE.out]; have HB3 : Aside0 (Below w.heap.size w w3) := ⟨below_step HB1.out hb3⟩; clear hb3) | (go_at_call 28; refine awake_c.mono ?_; rintro e w99 ⟨rfl, hb99⟩; have HB99 := Aside0.mk hb99; clear hb99))
      go_ret
      exact ⟨rfl, below_step HB3.out HB99.out⟩
    have hw : wrongR N M l = 0 := Decidable.byContradiction hwr
    clear hwr
    by_cases hn0 : N = 0
    · subst hn0
      have hM : M = 0 := by
        unfold wrongR at hw
        split at hw
        · cases hw
        · split at hw
          · unfold wrongIn at hw
            rw [if_neg (by omega)] at hw
            split at hw
            · cases hw
            · omega
          · cases hw
      subst hM
      have HW := Aside0.mk hw
      have T0 : Aside0 True := ⟨trivial⟩
      have T1 : Aside0 True := ⟨trivial⟩
      have T2 : Aside0 True := ⟨trivial⟩
      have T3 : Aside0 True := ⟨trivial⟩
      have T4 : Aside0 True := ⟨trivial⟩
      have T5 : Aside0 True := ⟨trivial⟩
      have HCE : Aside0 (∀ d : List S33, Srt d [] → CSort.checkB (endS (([] : List S45).map (·.f0))) (endS (([] : List S45).map (·.f1))) [] d = true) := ⟨fun d hd => by obtain rfl := List.perm_nil.1 hd.1; decide⟩
      clear hw
      go_wp2_with (first | (go_at_call 31; refine (few_c H.out).mono ?_; rintro e w1 ⟨rfl, hb1⟩; rw [HBV.out]; have HB1 := Aside0.mk hb1; have H1 := Aside0.mk (SLk.below H.out hb1); clear hb1) | (go_at_call 32; refine (finest_bad (0 : Nat) (0 : Nat) H1.out (by have := HLEN.out; omega) (.inr rfl)).mono ?_; rintro e w3 ⟨rfl, hb3⟩; rw [HW.out]; have HB3 : Aside0 (Below w.heap.size w w3) := ⟨below_step HB1.out hb3⟩; clear hb3) | (go_at_call 36; have tk := T0.out; clear T0 tk; refine (ident_c ((0 : Nat) : Int) (by decide)).mono ?_; rintro e w4 ⟨ua, rfl, hs, hb⟩; have HIa : Aside0 (SLk k45 w4 ua []) := ⟨hs⟩; have HB4 : Aside0 (Below w.heap.size w w4) := ⟨below_step HB3.out hb⟩; clear hs hb) | (go_at_call 38; have tk := T1.out; clear T1 tk; refine (comp_yes HIa.out (nil_slk _) (by decide) (by decide) (fun u r _ => u = .slice none 0 0 ∧ (0 : Int) = r) HCE.out HCE.out (fun w1 u hs hb => (finest_bad _ _ hs (by decide) (.inr (by decide))).mono (by rintro e w' ⟨rfl, hb⟩; exact ⟨_, _, rfl, ⟨rfl, by decide⟩, hb⟩))).mono ?_; rintro e w5 ⟨u, r, rfl, ⟨rfl, rfl⟩, hb⟩; have HB5 : Aside0 (Below w.heap.size w w5) := ⟨below_step HB4.out hb⟩; clear hb) | (go_at_call 36; refine (ident_c ((0 : Nat) : Int) (by decide)).mono ?_; rintro e w6 ⟨ub, rfl, hs, hb⟩; have HIb : Aside0 (SLk k45 w6 ub []) := ⟨hs⟩; have HB6 : Aside0 (Below w.heap.size w w6) := ⟨below_step HB5.out hb⟩; clear hs hb) | (go_at_call 38; refine (comp_yes (nil_slk _) HIb.out (by decide) (by decide) (fun u r _ => u = .slice none 0 0 ∧ (0 : Int) = r) HCE.out HCE.out (fun w1 u hs hb => (finest_bad _ _ hs (by decide) (.inr (by decide))).mono (by rintro e w' ⟨rfl, hb⟩; exact ⟨_, _, rfl, ⟨rfl, by decide⟩, hb⟩))).mono ?_; rintro e w7 ⟨u, r, rfl, ⟨rfl, rfl⟩, hb⟩; have HB7 : Aside0 (Below w.heap.size w w7) := ⟨below_step HB6.out hb⟩; clear hb) | (go_at_call 23; have tk := T2.out; clear T2 tk; refine (eq45_c (xs := []) (nil_slk _) (nil_slk _) (by decide)).mono ?_; rintro e w8 ⟨rfl, hd⟩; have HB8 : Aside0 (Below w.heap.size w w8) := ⟨below_step HB7.out (drawn0_below hd)⟩; clear hd) | (go_at_call 23; have tk := T3.out; clear T3 tk; refine (eq45_c (xs := []) (nil_slk _) (nil_slk _) (by decide)).mono ?_; rintro e w9 ⟨rfl, hd⟩; have HB9 : Aside0 (Below w.heap.size w w9) := ⟨below_step HB8.out (drawn0_below hd)⟩; clear hd) | (go_at_call 34; have tk := T4.out; clear T4 tk; refine (turn_c (l := []) (nil_slk _) (by decide)).mono ?_; rintro e w10 ⟨ub1, rfl, hs, hb⟩; have Hub1 : Aside0 (SLk k45 w10 ub1 []) := ⟨hs⟩; have HB10 : Aside0 (Below w.heap.size w w10) := ⟨below_step HB9.out hb⟩; clear hs hb) | (go_at_call 34; have tk := T5.out; clear T5 tk; refine (turn_c (l := []) Hub1.out (by decide)).mono ?_; rintro e w11 ⟨ub2, rfl, hs, hb⟩; have Hub2 : Aside0 (SLk k45 w11 ub2 []) := ⟨hs⟩; have HB11 : Aside0 (Below w.heap.size w w11) := ⟨below_step HB10.out hb⟩; clear hs hb) | (go_at_call 23; refine (eq45_c (xs := []) Hub2.out (nil_slk _) (by decide)).mono ?_; rintro e w12 ⟨rfl, hd⟩; have HB12 : Aside0 (Below w.heap.size w w12) := ⟨below_step HB11.out (drawn0_below hd)⟩; clear hd) | (go_at_call 34; refine (turn_c (l := []) (nil_slk _) (by decide)).mono ?_; rintro e w13 ⟨ub3, rfl, hs, hb⟩; have Hub3 : Aside0 (SLk k45 w13 ub3 []) := ⟨hs⟩; have HB13 : Aside0 (Below w.heap.size w w13) := ⟨below_step HB12.out hb⟩; clear hs hb) | (go_at_call 29; refine (CSort.check_c 0 0 Hub3.out (by decide)).mono ?_; rintro e w14 ⟨d, hp, hs, rfl, hb⟩; obtain rfl := List.perm_nil.1 hp; rw [show CSort.checkB 0 0 [] [] = true by decide]; have HB14 : Aside0 (Below w.heap.size w w14) := ⟨below_step HB13.out hb⟩; clear hp hs hb) | (go_at_call 28; refine awake_c.mono ?_; rintro e w99 ⟨rfl, hb99⟩; have HB99 := Aside0.mk hb99; clear hb99))
      go_ret
      exact ⟨rfl, below_step HB14.out HB99.out⟩
    have hM0 : M ≠ 0 := fun e => by
      subst e
      unfold wrongR at hw
      split at hw
      · cases hw
      · split at hw
        · unfold wrongIn at hw
          rw [if_pos ⟨rfl, by omega⟩] at hw
          cases hw
        · cases hw
    have HN : Aside0 (0 < N) := ⟨by omega⟩
    have HM : Aside0 (0 < M) := ⟨by omega⟩
    have HW := Aside0.mk hw
    have T0 : Aside0 True := ⟨trivial⟩
    have T1 : Aside0 True := ⟨trivial⟩
    have T2 : Aside0 True := ⟨trivial⟩
    have T3 : Aside0 True := ⟨trivial⟩
    have T4 : Aside0 True := ⟨trivial⟩
    have T5 : Aside0 True := ⟨trivial⟩
    clear hw hM0 hn0
    go_wp2_with (first | (go_at_call 31; refine (few_c H.out).mono ?_; rintro e w1 ⟨rfl, hb1⟩; rw [HBV.out]; have HB1 := Aside0.mk hb1; have H1 := Aside0.mk (SLk.below H.out hb1); clear hb1) | (go_at_call 32; refine (finest_c N M H1.out (by have := HLEN.out; omega) HN.out HM.out (by have := HNM.out; omega) HW.out).mono ?_; rintro e w3 ⟨u, L, rfl, hf, hR, hb3⟩; have HF := Aside0.mk hf; have hS := SLk.of_R hR; have HB3 : Aside0 (Below w.heap.size w w3) := ⟨below_step HB1.out hb3⟩; have HQL : Aside0 ((cluS N M L N).length ≤ 40) := ⟨by have := cluS_len N M L N; have := HNM.out; omega⟩; have HMAP := Aside0.mk (mapOk hf HN.out HM.out HW.out); have HTM := Aside0.mk (tame hf (wrong_ok HN.out HM.out HW.out).1); have HU3 := Aside0.mk hS; clear hf hR hb3 hS) | (go_at_call 36; have tk := T0.out; clear T0 tk; refine (ident_c (N : Int) (by have := HNM.out; omega)).mono ?_; rintro e w4 ⟨ua, rfl, hs, hb⟩; have HIa : Aside0 (SLk k45 w4 ua (idS N)) := ⟨by have := hs; rwa [Int.toNat_natCast] at this⟩; have HU4 := Aside0.mk (SLk.below HU3.out hb); have HB4 : Aside0 (Below w.heap.size w w4) := ⟨below_step HB3.out hb⟩; clear hs hb) | (go_at_call 38; have tk := T1.out; clear T1 tk; refine (comp_yes HIa.out HU4.out (by have := HQL.out; have := HNM.out; have := idS_len N; have := idS_len M; omega) (by have := HQL.out; have := HNM.out; have := idS_len N; have := idS_len M; omega) (fun u r w' => (0 : Int) = r ∧ SLk k45 w' u (cluS N M L N)) (fun d hd => (by rw [id_both, end_id]; exact idS_check N d hd.1 hd.2)) (fun d hd => (by rw [id_both, end_id, end_out HMAP.out]; exact check_true HMAP.out d hd.1 hd.2)) (fun w1 u hs hb => by rw [end_id, end_out HMAP.out]; exact (finest_c N M hs (by have h1 := compL_len (idS N) (cluS N M L N); have h2 := HQL.out; have h3 := HNM.out; have h4 := idS_len N; have h5 := Nat.mul_le_mul (show (idS N).length ≤ 40 by omega) (show (cluS N M L N).length ≤ 40 by omega); omega) HN.out HM.out (by have := HNM.out; omega) (ahead_right HMAP.out HN.out HM.out (by have := HNM.out; omega) (by have := HNM.out; omega))).mono (by rintro e w' ⟨u, L2, rfl, hf, hR, hb⟩; refine ⟨_, _, rfl, ⟨rfl, ?_⟩, hb⟩; have e : cluS N M L N = cluS N M L2 N := (by unfold cluS; rw [cluTo_same (FinOk.same (same_ahead HMAP.out HTM.out) hf)]); rw [e]; exact SLk.of_R hR))).mono ?_; rintro e w5 ⟨uA, r, rfl, ⟨rfl, hs⟩, hb⟩; have HVA := Aside0.mk hs; have HU5 := Aside0.mk (SLk.below HU4.out hb); have HB5 : Aside0 (Below w.heap.size w w5) := ⟨below_step HB4.out hb⟩; clear hs hb) | (go_at_call 36; refine (ident_c (M : Int) (by have := HNM.out; omega)).mono ?_; rintro e w6 ⟨ub, rfl, hs, hb⟩; have HIb : Aside0 (SLk k45 w6 ub (idS M)) := ⟨by have := hs; rwa [Int.toNat_natCast] at this⟩; have HVA6 := Aside0.mk (SLk.below HVA.out hb); have HU6 := Aside0.mk (SLk.below HU5.out hb); have HB6 : Aside0 (Below w.heap.size w w6) := ⟨below_step HB5.out hb⟩; clear hs hb) | (go_at_call 38; refine (comp_yes HU6.out HIb.out (by have := HQL.out; have := HNM.out; have := idS_len N; have := idS_len M; omega) (by have := HQL.out; have := HNM.out; have := idS_len N; have := idS_len M; omega) (fun u r w' => (0 : Int) = r ∧ SLk k45 w' u (cluS N M L N)) (fun d hd => (by rw [end_in HMAP.out, end_out HMAP.out]; exact check_true HMAP.out d hd.1 hd.2)) (fun d hd => (by rw [end_out HMAP.out, id_both, end_id]; exact idS_check M d hd.1 hd.2)) (fun w1 u hs hb => by rw [end_in HMAP.out, id_both, end_id]; exact (finest_c N M hs (by have h1 := compL_len (cluS N M L N) (idS M); have h2 := HQL.out; have h3 := HNM.out; have h4 := idS_len M; have h5 := Nat.mul_le_mul (show (cluS N M L N).length ≤ 40 by omega) (show (idS M).length ≤ 40 by omega); omega) HN.out HM.out (by have := HNM.out; omega) (behind_right HMAP.out HN.out HM.out (by have := HNM.out; omega) (by have := HNM.out; omega))).mono (by rintro e w' ⟨u, L2, rfl, hf, hR, hb⟩; refine ⟨_, _, rfl, ⟨rfl, ?_⟩, hb⟩; have e : cluS N M L N = cluS N M L2 N := (by unfold cluS; rw [cluTo_same (FinOk.same (same_behind HMAP.out HTM.out) hf)]); rw [e]; exact SLk.of_R hR))).mono ?_; rintro e w7 ⟨uB, r, rfl, ⟨rfl, hs⟩, hb⟩; have HVB := Aside0.mk hs; have HU7 := Aside0.mk (SLk.below HU6.out hb); have HB7 : Aside0 (Below w.heap.size w w7) := ⟨below_step HB6.out hb⟩; have HVAx := Aside0.mk (SLk.below HVA6.out hb); clear hs hb) | (go_at_call 23; have tk := T2.out; clear T2 tk; refine (eq45_c HVAx.out HU7.out (by have := HQL.out; omega)).mono ?_; rintro e w8 ⟨rfl, hd⟩; have hb := drawn0_below hd; have HVB8 := Aside0.mk (SLk.below HVB.out hb); have HU8 := Aside0.mk (SLk.below HU7.out hb); have HB8 : Aside0 (Below w.heap.size w w8) := ⟨below_step HB7.out hb⟩; clear hd hb) | (go_at_call 23; have tk := T3.out; clear T3 tk; refine (eq45_c HVB8.out HU8.out (by have := HQL.out; omega)).mono ?_; rintro e w9 ⟨rfl, hd⟩; have hb := drawn0_below hd; have HU9 := Aside0.mk (SLk.below HU8.out hb); have HB9 : Aside0 (Below w.heap.size w w9) := ⟨below_step HB8.out hb⟩; clear hd hb) | (go_at_call 34; have tk := T4.out; clear T4 tk; refine (turn_c HU9.out (by have := HQL.out; omega)).mono ?_; rintro e w10 ⟨ut1, rfl, hs, hb⟩; have HT10 := Aside0.mk hs; have HU10 := Aside0.mk (SLk.below HU9.out hb); have HB10 : Aside0 (Below w.heap.size w w10) := ⟨below_step HB9.out hb⟩; clear hs hb) | (go_at_call 34; have tk := T5.out; clear T5 tk; refine (turn_c HT10.out (by rw [turn_len]; have := HQL.out; omega)).mono ?_; rintro e w11 ⟨ut2, rfl, hs, hb⟩; have HT11 : Aside0 (SLk k45 w11 ut2 (cluS N M L N)) := ⟨by have := hs; rwa [turn_turn _ (ins_sorted HMAP.out)] at this⟩; have HU11 := Aside0.mk (SLk.below HU10.out hb); have HB11 : Aside0 (Below w.heap.size w w11) := ⟨below_step HB10.out hb⟩; clear hs hb) | (go_at_call 23; refine (eq45_c HT11.out HU11.out (by have := HQL.out; omega)).mono ?_; rintro e w12 ⟨rfl, hd⟩; have hb := drawn0_below hd; have HU12 := Aside0.mk (SLk.below HU11.out hb); have HB12 : Aside0 (Below w.heap.size w w12) := ⟨below_step HB11.out hb⟩; clear hd hb) | (go_at_call 34; refine (turn_c HU12.out (by have := HQL.out; omega)).mono ?_; rintro e w13 ⟨ut3, rfl, hs, hb⟩; have HT13 := Aside0.mk hs; have HU13 := Aside0.mk (SLk.below HU12.out hb); have HB13 : Aside0 (Below w.heap.size w w13) := ⟨below_step HB12.out hb⟩; clear hs hb) | (go_at_call 29; refine (CSort.check_c M N HT13.out (by rw [turn_len]; have := HQL.out; omega)).mono ?_; rintro e w14 ⟨d, hp, hs, rfl, hb⟩; rw [turn_check HMAP.out d hp hs]; have HB14 : Aside0 (Below w.heap.size w w14) := ⟨below_step HB13.out hb⟩; clear hp hs hb) | (go_at_call 28; refine awake_c.mono ?_; rintro e w99 ⟨rfl, hb99⟩; have HB99 := Aside0.mk hb99; clear hb99))
    go_ret
    exact ⟨rfl, below_step HB14.out HB99.out⟩
end Go.Proofs.Ytohhobcipfmkbaa
