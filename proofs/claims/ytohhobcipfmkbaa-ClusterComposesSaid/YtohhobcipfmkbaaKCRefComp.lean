/- Texts of this claim, cut to what it needs. -/
import Derived.Test.YtohhobcipfmkbaaKCComp
import Derived.Test.YtohhobcipfmkbaaKWalkClusterChecks
namespace Go.Proofs.Ytohhobcipfmkbaa.CFin
open Go.RowKit Go.Maps Go.Proofs.YtohhobcipfmkbaaW.PrintWords Go.Proofs.YtohhobcipfmkbaaW.PrintMore Go.Proofs.YtohhobcipfmkbaaW.PrintLast Go.Proofs.Ytohhobcipfmkbaa.U Go.Proofs.Ytohhobcipfmkbaa.PClusterFinest Go.Proofs.Ytohhobcipfmkbaa.UFinest Go.Proofs.Ytohhobcipfmkbaa.UFinEv Go.Proofs.Ytohhobcipfmkbaa.UWhole
set_option linter.unusedVariables false
set_option linter.unusedSimpArgs false
theorem endS_take {l : List S33} {k : Nat} (h : k < l.length) : endS (l.take (k + 1)) = max (endS (l.take k)) l[k].f1 := by
  rw [List.take_succ_eq_append_getElem h, endS_snoc]
theorem refIns_loop (l : List S45) (hl : l.length ≤ 1000000) (d : Nat) : ∀ i : Nat, i + d = l.length → Ev (fun k => naskhref04_ins.l0 k l (endS ((l.map (·.f0)).take i)) (i : Int)) (endS (l.map (·.f0))) := by
  induction d with
  | zero =>
    intro i hd
    rw [List.take_of_length_le (by rw [List.length_map]; omega)]
    exact Ev.step (fun k => by rw [naskhref04_ins.l0]) (ev_neg (by omega) (ev_now _))
  | succ d ih =>
    intro i hd
    have hlt : i < l.length := by omega
    have h2 : i < (l.map (·.f0)).length := by rw [List.length_map]; exact hlt
    refine Ev.step (fun k => by rw [naskhref04_ins.l0]) (ev_pos (by omega) (ev_pos (by omega) ?_))
    rw [rd45 hlt, w64 (by omega) (by omega), show (i : Int) + 1 = ((i + 1 : Nat) : Int) by omega]
    have := ih (i + 1) (by omega)
    rw [endS_take h2, List.getElem_map] at this
    unfold mx
    rw [mx_is]
    exact this
theorem refOuts_loop (l : List S45) (hl : l.length ≤ 1000000) (d : Nat) : ∀ i : Nat, i + d = l.length → Ev (fun k => naskhref04_outs.l0 k l (endS ((l.map (·.f1)).take i)) (i : Int)) (endS (l.map (·.f1))) := by
  induction d with
  | zero =>
    intro i hd
    rw [List.take_of_length_le (by rw [List.length_map]; omega)]
    exact Ev.step (fun k => by rw [naskhref04_outs.l0]) (ev_neg (by omega) (ev_now _))
  | succ d ih =>
    intro i hd
    have hlt : i < l.length := by omega
    have h2 : i < (l.map (·.f1)).length := by rw [List.length_map]; exact hlt
    refine Ev.step (fun k => by rw [naskhref04_outs.l0]) (ev_pos (by omega) (ev_pos (by omega) ?_))
    rw [rd45 hlt, w64 (by omega) (by omega), show (i : Int) + 1 = ((i + 1 : Nat) : Int) by omega]
    have := ih (i + 1) (by omega)
    rw [endS_take h2, List.getElem_map] at this
    unfold mx
    rw [mx_is]
    exact this
theorem refIns_c {w : World} {v : Value} {l : List S45} (h : SLk k45 w v l) (hl : l.length ≤ 1000000) : Calls Try.prog 73 #[v] w fun e w' => e = .returned (.int .i64 (endS (l.map (·.f0)))) ∧ Below w.heap.size w w' := by
  obtain ⟨A, c, rfl, hc, hC⟩ := h
  obtain ⟨k, hk⟩ := ev_some (refIns_loop l hl l.length 0 (by omega))
  exact naskhref04_ins.calls k A c l _ w hC hc hk
theorem refOuts_c {w : World} {v : Value} {l : List S45} (h : SLk k45 w v l) (hl : l.length ≤ 1000000) : Calls Try.prog 74 #[v] w fun e w' => e = .returned (.int .i64 (endS (l.map (·.f1)))) ∧ Below w.heap.size w w' := by
  obtain ⟨A, c, rfl, hc, hC⟩ := h
  obtain ⟨k, hk⟩ := ev_some (refOuts_loop l hl l.length 0 (by omega))
  exact naskhref04_outs.calls k A c l _ w hC hc hk
theorem srt_sort (l : List S45) : Srt (CSort.sortL (l.map (·.f1))) l := ⟨CSort.sortL_perm _, CSort.sortL_sorted _⟩
set_option maxRecDepth 100000 in
set_option maxHeartbeats 4000000 in
theorem refComp_no {w : World} {va vb : Value} {a b : List S45} (ha : SLk k45 w va a) (hb : SLk k45 w vb b) (hla : a.length ≤ 100000) (hlb : b.length ≤ 100000)
    (r1 r2 : Bool) (hr1 : ∀ d, Srt d a → CSort.checkB (endS (a.map (·.f0))) (endS (a.map (·.f1))) a d = r1) (hr2 : ∀ d, Srt d b → CSort.checkB (endS (a.map (·.f1))) (endS (b.map (·.f1))) b d = r2) (hno : (r1 && r2) = false) :
    Calls Try.prog 39 #[va, vb] w fun e w' => e = .returned (.tuple #[.slice none 0 0, .int .i64 13]) ∧ Below w.heap.size w w' := by
  have HA := Aside0.mk ha
  have HQ := Aside0.mk hb
  have HLA : Aside0 (a.length ≤ 100000) := ⟨by omega⟩
  have HLQ : Aside0 (b.length ≤ 100000) := ⟨by omega⟩
  have HD := Aside0.mk hr1
  have HE := Aside0.mk hr2
  have T0 : Aside0 True := ⟨trivial⟩
  have T1 : Aside0 True := ⟨trivial⟩
  obtain ⟨A, ca, rfl, _, _⟩ := ha
  obtain ⟨B, cb, rfl, _, _⟩ := hb
  clear hr1 hr2
  obtain ⟨n, hn⟩ : ∃ n, n = endS (a.map (·.f0)) := ⟨_, rfl⟩
  obtain ⟨m, hm⟩ : ∃ m, m = endS (a.map (·.f1)) := ⟨_, rfl⟩
  obtain ⟨kk, hk⟩ : ∃ k, k = endS (b.map (·.f1)) := ⟨_, rfl⟩
  have HN := Aside0.mk hn
  have HM := Aside0.mk hm
  have HK := Aside0.mk hk
  rw [← hn, ← hm] at HD
  rw [← hm, ← hk] at HE
  clear hn hm hk
  go_enter Try.func39, Try.ntmps39
  cases r1 with
  | false =>
    go_wp2_with (first | (go_at_call 73; refine (refIns_c HA.out (by have := HLA.out; omega)).mono ?_; rintro e w1 ⟨rfl, hb1⟩; rw [← HN.out]; have HB1 := Aside0.mk hb1; have HA1 := Aside0.mk (SLk.below HA.out hb1); have HQ1 := Aside0.mk (SLk.below HQ.out hb1); clear hb1) | (go_at_call 74; have tk := T0.out; clear T0 tk; refine (refOuts_c HA1.out (by have := HLA.out; omega)).mono ?_; rintro e w2 ⟨rfl, hb2⟩; rw [← HM.out]; have HB2 : Aside0 (Below w.heap.size w w2) := ⟨below_step HB1.out hb2⟩; have HA2 := Aside0.mk (SLk.below HA1.out hb2); have HQ2 := Aside0.mk (SLk.below HQ1.out hb2); clear hb2) | (go_at_call 74; refine (refOuts_c HQ2.out (by have := HLQ.out; omega)).mono ?_; rintro e w3 ⟨rfl, hb3⟩; rw [← HK.out]; have HB3 : Aside0 (Below w.heap.size w w3) := ⟨below_step HB2.out hb3⟩; have HA3 := Aside0.mk (SLk.below HA2.out hb3); have HQ3 := Aside0.mk (SLk.below HQ2.out hb3); clear hb3) | (go_at_call 30; have tk := T1.out; clear T1 tk; refine (CSort.refCheck_c _ _ HA3.out (by have := HLA.out; omega)).mono ?_; rintro e w4 ⟨rfl, hb4⟩; rw [HD.out _ (srt_sort _)]; have HB4 : Aside0 (Below w.heap.size w w4) := ⟨below_step HB3.out hb4⟩; have HA4 := Aside0.mk (SLk.below HA3.out hb4); have HQ4 := Aside0.mk (SLk.below HQ3.out hb4); clear hb4))
    refine bodyPost_ret (results_tmp2 rfl _ _ _) rfl ?_
    exact ⟨rfl, HB4.out⟩
  | true =>
    cases r2 with
    | true => cases hno
    | false =>
      go_wp2_with (first | (go_at_call 73; refine (refIns_c HA.out (by have := HLA.out; omega)).mono ?_; rintro e w1 ⟨rfl, hb1⟩; rw [← HN.out]; have HB1 := Aside0.mk hb1; have HA1 := Aside0.mk (SLk.below HA.out hb1); have HQ1 := Aside0.mk (SLk.below HQ.out hb1); clear hb1) | (go_at_call 74; have tk := T0.out; clear T0 tk; refine (refOuts_c HA1.out (by have := HLA.out; omega)).mono ?_; rintro e w2 ⟨rfl, hb2⟩; rw [← HM.out]; have HB2 : Aside0 (Below w.heap.size w w2) := ⟨below_step HB1.out hb2⟩; have HA2 := Aside0.mk (SLk.below HA1.out hb2); have HQ2 := Aside0.mk (SLk.below HQ1.out hb2); clear hb2) | (go_at_call 74; refine (refOuts_c HQ2.out (by have := HLQ.out; omega)).mono ?_; rintro e w3 ⟨rfl, hb3⟩; rw [← HK.out]; have HB3 : Aside0 (Below w.heap.size w w3) := ⟨below_step HB2.out hb3⟩; have HA3 := Aside0.mk (SLk.below HA2.out hb3); have HQ3 := Aside0.mk (SLk.below HQ2.out hb3); clear hb3) | (go_at_call 30; have tk := T1.out; clear T1 tk; refine (CSort.refCheck_c _ _ HA3.out (by have := HLA.out; omega)).mono ?_; rintro e w4 ⟨rfl, hb4⟩; rw [HD.out _ (srt_sort _)]; have HB4 : Aside0 (Below w.heap.size w w4) := ⟨below_step HB3.out hb4⟩; have HA4 := Aside0.mk (SLk.below HA3.out hb4); have HQ4 := Aside0.mk (SLk.below HQ3.out hb4); clear hb4) | (go_at_call 30; refine (CSort.refCheck_c _ _ HQ4.out (by have := HLQ.out; omega)).mono ?_; rintro e w5 ⟨rfl, hb5⟩; rw [HE.out _ (srt_sort _)]; have HB5 : Aside0 (Below w.heap.size w w5) := ⟨below_step HB4.out hb5⟩; have HA5 := Aside0.mk (SLk.below HA4.out hb5); have HQ5 := Aside0.mk (SLk.below HQ4.out hb5); clear hb5))
      refine bodyPost_ret (results_tmp2 rfl _ _ _) rfl ?_
      exact ⟨rfl, HB5.out⟩
set_option maxRecDepth 100000 in
set_option maxHeartbeats 8000000 in
theorem refComp_yes {w : World} {va vb : Value} {a b : List S45} (ha : SLk k45 w va a) (hb : SLk k45 w vb b) (hla : a.length ≤ 60) (hlb : b.length ≤ 60) (R : Value → Int → World → Prop)
    (hr1 : ∀ d, Srt d a → CSort.checkB (endS (a.map (·.f0))) (endS (a.map (·.f1))) a d = true) (hr2 : ∀ d, Srt d b → CSort.checkB (endS (a.map (·.f1))) (endS (b.map (·.f1))) b d = true)
    (hfin : ∀ w1 u, SLk k45 w1 u (compL a b) → Below w.heap.size w w1 → Calls Try.prog 33 #[.int .i64 (endS (a.map (·.f0))), .int .i64 (endS (b.map (·.f1))), u] w1 fun e w' => ∃ u r, e = .returned (.tuple #[u, .int .i64 r]) ∧ R u r w' ∧ Below w1.heap.size w1 w') :
    Calls Try.prog 39 #[va, vb] w fun e w' => ∃ u r, e = .returned (.tuple #[u, .int .i64 r]) ∧ R u r w' ∧ Below w.heap.size w w' := by
  have HA := Aside0.mk ha
  have HQ := Aside0.mk hb
  have HLA : Aside0 (a.length ≤ 100000) := ⟨by omega⟩
  have HLQ : Aside0 (b.length ≤ 100000) := ⟨by omega⟩
  have HD := Aside0.mk hr1
  have HE := Aside0.mk hr2
  have T0 : Aside0 True := ⟨trivial⟩
  have T1 : Aside0 True := ⟨trivial⟩
  have HFIN := Aside0.mk hfin
  obtain ⟨A, ca, rfl, _, hCA⟩ := ha
  obtain ⟨B, cb, rfl, _, hCB⟩ := hb
  have HCA := Aside0.mk hCA
  have HCB := Aside0.mk hCB
  clear hr1 hr2 hfin hCA hCB
  obtain ⟨n, hn⟩ : ∃ n, n = endS (a.map (·.f0)) := ⟨_, rfl⟩
  obtain ⟨m, hm⟩ : ∃ m, m = endS (a.map (·.f1)) := ⟨_, rfl⟩
  obtain ⟨kk, hk⟩ : ∃ k, k = endS (b.map (·.f1)) := ⟨_, rfl⟩
  have HN := Aside0.mk hn
  have HM := Aside0.mk hm
  have HK := Aside0.mk hk
  rw [← hn, ← hm] at HD
  rw [← hm, ← hk] at HE
  rw [← hn, ← hk] at HFIN
  clear hn hm hk
  go_enter Try.func39, Try.ntmps39
  go_upto_region 4 with (first | (go_at_call 73; refine (refIns_c HA.out (by have := HLA.out; omega)).mono ?_; rintro e w1 ⟨rfl, hb1⟩; rw [← HN.out]; have HB1 := Aside0.mk hb1; have HA1 := Aside0.mk (SLk.below HA.out hb1); have HQ1 := Aside0.mk (SLk.below HQ.out hb1); clear hb1) | (go_at_call 74; have tk := T0.out; clear T0 tk; refine (refOuts_c HA1.out (by have := HLA.out; omega)).mono ?_; rintro e w2 ⟨rfl, hb2⟩; rw [← HM.out]; have HB2 : Aside0 (Below w.heap.size w w2) := ⟨below_step HB1.out hb2⟩; have HA2 := Aside0.mk (SLk.below HA1.out hb2); have HQ2 := Aside0.mk (SLk.below HQ1.out hb2); clear hb2) | (go_at_call 74; refine (refOuts_c HQ2.out (by have := HLQ.out; omega)).mono ?_; rintro e w3 ⟨rfl, hb3⟩; rw [← HK.out]; have HB3 : Aside0 (Below w.heap.size w w3) := ⟨below_step HB2.out hb3⟩; have HA3 := Aside0.mk (SLk.below HA2.out hb3); have HQ3 := Aside0.mk (SLk.below HQ2.out hb3); clear hb3) | (go_at_call 30; have tk := T1.out; clear T1 tk; refine (CSort.refCheck_c _ _ HA3.out (by have := HLA.out; omega)).mono ?_; rintro e w4 ⟨rfl, hb4⟩; rw [HD.out _ (srt_sort _)]; have HB4 : Aside0 (Below w.heap.size w w4) := ⟨below_step HB3.out hb4⟩; have HA4 := Aside0.mk (SLk.below HA3.out hb4); have HQ4 := Aside0.mk (SLk.below HQ3.out hb4); clear hb4) | (go_at_call 30; refine (CSort.refCheck_c _ _ HQ4.out (by have := HLQ.out; omega)).mono ?_; rintro e w5 ⟨rfl, hb5⟩; rw [HE.out _ (srt_sort _)]; have HB5 : Aside0 (Below w.heap.size w w5) := ⟨below_step HB4.out hb5⟩; have HA5 := Aside0.mk (SLk.below HA4.out hb5); have HQ5 := Aside0.mk (SLk.below HQ4.out hb5); clear hb5))
  go_wp2
  go_loopw [9, 10] (fun v9 v wr => ∃ k : Nat, v = .int .i64 (k : Int) ∧ k ≤ a.length ∧ Aside0 (Kd.R k45 45 wr w.heap.size (fun _ => True) v9 (compL (a.take k) b)) ∧ Aside0 (Below w.heap.size w wr)) (fun _ v _ => a.length - (intOf v).toNat)
  case atStart => exact ⟨0, rfl, Nat.zero_le _, ⟨Kd.R_nil _ _ _ _ _⟩, HB5⟩
  case round =>
    obtain ⟨wo, ewo⟩ : ∃ wo, wo = wr := ⟨_, rfl⟩
    subst ewo
    obtain ⟨k, rfl, hk, HR, HB⟩ := hrel
    by_cases hlt : k < a.length
    · obtain ⟨x, hx⟩ : ∃ x, x = a[k] := ⟨_, rfl⟩
      have HNX : Aside0 (compL (a.take (k + 1)) b = compL (a.take k) b ++ filL x b) := ⟨by rw [hx]; exact compL_take hlt⟩
      have HLO : Aside0 ((compL (a.take k) b).length ≤ 3600) := ⟨by
        have h1 := compL_len (a.take k) b
        have h2 : (a.take k).length ≤ 60 := by rw [List.length_take]; omega
        have h3 := Nat.mul_le_mul h2 hlb
        omega⟩
      obtain ⟨o, ho⟩ : ∃ o, o = compL (a.take k) b := ⟨_, rfl⟩
      rw [← ho] at HR HNX HLO
      have HXE := Aside0.mk hx
      have hkI : (k : Int) < (a.length : Int) := by omega
      have hk0 : 0 ≤ (k : Int) := by omega
      have etk : (k : Int).toNat = k := Int.toNat_natCast _
      clear hx ho
      go_wp2
      go_loopw [9, 11] (fun v9 v wr => ∃ j : Nat, v = .int .i64 (j : Int) ∧ j ≤ b.length ∧ Aside0 (Kd.R k45 45 wr w.heap.size (fun _ => True) v9 (o ++ filL x (b.take j))) ∧ Aside0 (Below w.heap.size w wr)) (fun _ v _ => b.length - (intOf v).toNat)
      case atStart => exact ⟨0, rfl, Nat.zero_le _, ⟨by rw [List.take_zero]; unfold filL; simpa using HR.out⟩, HB⟩
      case round =>
        clear HR HB
        obtain ⟨j, rfl, hj, HR, HB⟩ := hrel
        by_cases hlj : j < b.length
        · obtain ⟨y, hy⟩ : ∃ y, y = b[j] := ⟨_, rfl⟩
          have HNY : Aside0 (filL x (b.take (j + 1)) = filL x (b.take j) ++ (if meetB x.f1 y.f0 then [⟨x.f0, y.f1⟩] else [])) := ⟨by rw [hy]; exact filL_take hlj⟩
          obtain ⟨ad, ead, c0, c1, c2, c3⟩ := at_T45 (Kd.C_below HCA.out HB.out) (k : Int) (by omega) (by omega)
          rw [rd45 hlt, Int.toNat_natCast, ← HXE.out] at c0 c1 c2 c3
          obtain ⟨ae, eae, d0, d1, d2, d3⟩ := at_T45 (Kd.C_below HCB.out HB.out) (j : Int) (by omega) (by omega)
          rw [rd45 hlj, Int.toNat_natCast, ← hy] at d0 d1 d2 d3
          have hjI : (j : Int) < (b.length : Int) := by omega
          have hj0 : 0 ≤ (j : Int) := by omega
          have etj : (j : Int).toNat = j := Int.toNat_natCast _
          obtain ⟨q, hq⟩ : ∃ q, q = o ++ filL x (b.take j) := ⟨_, rfl⟩
          have HQE := Aside0.mk hq
          have HLQQ : Aside0 (q.length ≤ 4000) := ⟨by
            have h1 := filL_len x (b.take j)
            have h2 : (b.take j).length ≤ 60 := by rw [List.length_take]; omega
            have h3 := HLO.out
            rw [hq, List.length_append]; omega⟩
          rw [← hq] at HR
          obtain ⟨AY, cy, exl⟩ := Kd.R_slice HR.out
          subst exl
          subst ead eae
          clear hy hq
          by_cases m1 : x.f1.f0 < y.f0.f1
          · have e1 : decide (x.f1.f0 < y.f0.f1) = true := decide_eq_true m1
            by_cases m2 : y.f0.f0 < x.f1.f1
            · have e2 : decide (y.f0.f0 < x.f1.f1) = true := decide_eq_true m2
              have hmb : meetB x.f1 y.f0 = true := by unfold meetB; rw [e1, e2]; rfl
              rw [hmb] at HNY
              clear hmb
              go_wp2
              go_quiet (fail)
              go_wp2
              obtain ⟨wq, hwq⟩ : ∃ W, W = wr.drewN nq := ⟨_, rfl⟩
              have HBq : Aside0 (Below wr.heap.size wr wq) := ⟨by rw [hwq]; exact pw_below_drewN (Below.refl _ _) _⟩
              replace HR : Aside0 (Kd.R k45 45 wq w.heap.size (fun _ => True) (.slice AY q.length cy) q) := ⟨Kd.R_below HR.out HBq.out⟩
              replace HB : Aside0 (Below w.heap.size w wq) := ⟨below_step HB.out HBq.out⟩
              replace c0 := (HBq.out.cell (World.block_lt_of_cell? _ _ c0)).trans c0
              replace c1 := (HBq.out.cell (World.block_lt_of_cell? _ _ c1)).trans c1
              replace d2 := (HBq.out.cell (World.block_lt_of_cell? _ _ d2)).trans d2
              replace d3 := (HBq.out.cell (World.block_lt_of_cell? _ _ d3)).trans d3
              try rw [← hwq]
              clear hwq HBq e1 e2 m1 m2 c2 c3 d0 d1
              have HBD : Aside0 (Below wq.heap.size wq wq.drew) := ⟨below_drew (Below.refl _ _)⟩
              have HRD : Aside0 (Kd.R k45 45 wq.drew w.heap.size (fun _ => True) (.slice AY q.length cy) q) := ⟨Kd.R_below HR.out HBD.out⟩
              have HBW1 : Aside0 (Below w.heap.size w wq.drew) := ⟨below_step HB.out HBD.out⟩
              refine start_ (n := 15) (S := (fun W => Below wq.heap.size wq W)) (ds := [13]) #[false, false, false, false, false, false, false, false, false, false, false, false, false, false, false] (by kernel_rfl) (by kernel_rfl) (by rfl) HBD.out (fun hS0 => ?_)
              refine pure_ (i := 0) (N := (some 70)) (v := ?_) (a' := ?_) #[true, false, false, false, false, false, false, false, false, false, false, false, false, false, false] rfl rfl (by kernel_rfl) (fun _ _ _ h => h) (Or.inl ⟨by rfl, ?_⟩) ?_ ?_
              rotate_left
              · intro w'
                go_simp
                with_reducible rfl
              rotate_left
              · simp only [Act.put, List.setIfInBounds_toArray, List.set_cons_zero, List.set_cons_succ]
                rfl
              refine pure_ (i := 1) (N := (some 71)) (v := ?_) (a' := ?_) #[true, true, false, false, false, false, false, false, false, false, false, false, false, false, false] rfl rfl (by kernel_rfl) (fun _ _ _ h => h) (Or.inl ⟨by rfl, ?_⟩) ?_ ?_
              rotate_left
              · intro w'
                go_simp
                with_reducible rfl
              rotate_left
              · simp only [Act.put, List.setIfInBounds_toArray, List.set_cons_zero, List.set_cons_succ]
                rfl
              refine pure_ (i := 2) (N := (some 72)) (v := ?_) (a' := ?_) #[true, true, true, false, false, false, false, false, false, false, false, false, false, false, false] rfl rfl (by kernel_rfl) (fun _ _ _ h => h) (Or.inl ⟨by rfl, ?_⟩) ?_ ?_
              rotate_left
              · intro w'
                go_simp
                with_reducible rfl
              rotate_left
              · simp only [Act.put, List.setIfInBounds_toArray, List.set_cons_zero, List.set_cons_succ]
                rfl
              refine pure_ (i := 3) (N := (some 73)) (v := ?_) (a' := ?_) #[true, true, true, true, false, false, false, false, false, false, false, false, false, false, false] rfl rfl (by kernel_rfl) (fun _ _ _ h => h) (Or.inl ⟨by rfl, ?_⟩) ?_ ?_
              rotate_left
              · intro w'
                go_simp
                with_reducible rfl
              rotate_left
              · simp only [Act.put, List.setIfInBounds_toArray, List.set_cons_zero, List.set_cons_succ]
                rfl
              refine pure_ (i := 4) (N := (some 74)) (v := ?_) (a' := ?_) #[true, true, true, true, true, false, false, false, false, false, false, false, false, false, false] rfl rfl (by kernel_rfl) (fun _ _ _ h => h) (Or.inl ⟨by rfl, ?_⟩) ?_ ?_
              rotate_left
              · intro w'
                go_simp
                with_reducible rfl
              rotate_left
              · simp only [Act.put, List.setIfInBounds_toArray, List.set_cons_zero, List.set_cons_succ]
                rfl
              refine take_ (i := 5) (N := (some 75)) (v := ?_) (a' := ?_) #[true, true, true, true, true, true, false, false, false, false, false, false, false, false, false] rfl rfl (by kernel_rfl) (fun _ _ _ h => h) (Or.inl ⟨by rfl, ?_⟩) hS0 ?_ ?_
              rotate_left
              · intro w' s0
                have hx0 := (s0.cell (World.block_lt_of_cell? _ _ c0)).trans c0
                have hx1 := (s0.cell (World.block_lt_of_cell? _ _ c1)).trans c1
                go_simp
                with_reducible rfl
              rotate_left
              · simp only [Act.put, List.setIfInBounds_toArray, List.set_cons_zero, List.set_cons_succ]
                rfl
              refine pure_ (i := 6) (N := (some 76)) (v := ?_) (a' := ?_) #[true, true, true, true, true, true, true, false, false, false, false, false, false, false, false] rfl rfl (by kernel_rfl) (fun _ _ _ h => h) (Or.inl ⟨by rfl, ?_⟩) ?_ ?_
              rotate_left
              · intro w'
                go_simp
                with_reducible rfl
              rotate_left
              · simp only [Act.put, List.setIfInBounds_toArray, List.set_cons_zero, List.set_cons_succ]
                rfl
              refine pure_ (i := 7) (N := (some 77)) (v := ?_) (a' := ?_) #[true, true, true, true, true, true, true, true, false, false, false, false, false, false, false] rfl rfl (by kernel_rfl) (fun _ _ _ h => h) (Or.inl ⟨by rfl, ?_⟩) ?_ ?_
              rotate_left
              · intro w'
                go_simp
                with_reducible rfl
              rotate_left
              · simp only [Act.put, List.setIfInBounds_toArray, List.set_cons_zero, List.set_cons_succ]
                rfl
              refine pure_ (i := 8) (N := (some 78)) (v := ?_) (a' := ?_) #[true, true, true, true, true, true, true, true, true, false, false, false, false, false, false] rfl rfl (by kernel_rfl) (fun _ _ _ h => h) (Or.inl ⟨by rfl, ?_⟩) ?_ ?_
              rotate_left
              · intro w'
                go_simp
                with_reducible rfl
              rotate_left
              · simp only [Act.put, List.setIfInBounds_toArray, List.set_cons_zero, List.set_cons_succ]
                rfl
              refine pure_ (i := 9) (N := (some 79)) (v := ?_) (a' := ?_) #[true, true, true, true, true, true, true, true, true, true, false, false, false, false, false] rfl rfl (by kernel_rfl) (fun _ _ _ h => h) (Or.inl ⟨by rfl, ?_⟩) ?_ ?_
              rotate_left
              · intro w'
                go_simp
                with_reducible rfl
              rotate_left
              · simp only [Act.put, List.setIfInBounds_toArray, List.set_cons_zero, List.set_cons_succ]
                rfl
              refine take_ (i := 10) (N := (some 80)) (v := ?_) (a' := ?_) #[true, true, true, true, true, true, true, true, true, true, true, false, false, false, false] rfl rfl (by kernel_rfl) (fun _ _ _ h => h) (Or.inl ⟨by rfl, ?_⟩) hS0 ?_ ?_
              rotate_left
              · intro w' s0
                have hx0 := (s0.cell (World.block_lt_of_cell? _ _ d2)).trans d2
                have hx1 := (s0.cell (World.block_lt_of_cell? _ _ d3)).trans d3
                go_simp
                with_reducible rfl
              rotate_left
              · simp only [Act.put, List.setIfInBounds_toArray, List.set_cons_zero, List.set_cons_succ]
                rfl
              refine pure_ (i := 11) (N := (some 81)) (v := ?_) (a' := ?_) #[true, true, true, true, true, true, true, true, true, true, true, true, false, false, false] rfl rfl (by kernel_rfl) (fun _ _ _ h => h) (Or.inl ⟨by rfl, ?_⟩) ?_ ?_
              rotate_left
              · intro w'
                go_simp
                with_reducible rfl
              rotate_left
              · simp only [Act.put, List.setIfInBounds_toArray, List.set_cons_zero, List.set_cons_succ]
                rfl
              clear hS0
              refine one_ (i := 12) (N := (some 82)) #[true, true, true, true, true, true, true, true, true, true, true, true, true, false, false] rfl rfl (by kernel_rfl) (by decide) (fun K hK => ?_)
              refine value_ (w1 := wq.drew.alloc (.cells #[.int .i64 x.f0.f0, .int .i64 x.f0.f1, .int .i64 y.f1.f0, .int .i64 y.f1.f1] 45 (0, 0))) (v := .slice (some ⟨wq.drew.heap.size, 0, none⟩) 1 1) (by rfl) rfl (by go_simp) ?_
              change K (Act.put _ (some 82) _) _
              refine hK.out _ _ (below_step HBD.out (below_alloc (Below.refl _ _) _)) (fun hS0 => ?_)
              clear hK
              refine norm_ (a' := ?_) ?_ ?_
              rotate_left
              · simp only [Act.put, List.setIfInBounds_toArray, List.set_cons_zero, List.set_cons_succ]
                rfl
              clear hS0
              refine last_ (i := 13) (N := (some 83)) #[true, true, true, true, true, true, true, true, true, true, true, true, true, true, false] rfl rfl (by kernel_rfl) (by decide) (fun K hK => ?_)
              refine Kd.R_append_step k45 (w0 := w) w.heap.size (by rfl) (.tmp 70) (.tmp 82) 40 45 (.agg #[(.int .i64 0), (.int .i64 0), (.int .i64 0), (.int .i64 0)]) 32 rfl Try.underlying40 info45 rfl (by decide) (by omega) _ q (⟨x.f0, y.f1⟩ : S45) [.int .i64 x.f0.f0, .int .i64 x.f0.f1, .int .i64 y.f1.f0, .int .i64 y.f1.f1] (fun _ => True) (fun _ => False) rfl rfl (k45_mkM _ _ _ (⟨x.f0, y.f1⟩ : S45)) (fun _ hk => hk.elim) (fun _ _ => trivial) HRD.out HBW1.out HBW1.out.size (by have := HLQQ.out; omega) ?_
              intro v1 w2 hv hb hg hat
              have HR2 := Aside0.mk hv
              have HB2' := Aside0.mk hb
              clear hv hb hg hat
              change K (Act.put _ (some 83) _) _
              refine hK.out _ _ ?_
              clear hK
              refine pure_ (i := 14) (N := (some 9)) (v := ?_) (a' := ?_) #[true, true, true, true, true, true, true, true, true, true, true, true, true, true, true] rfl rfl (by kernel_rfl) (fun _ _ _ h => h) (Or.inl ⟨by rfl, ?_⟩) ?_ ?_
              rotate_left
              · intro w'
                go_simp
                with_reducible rfl
              rotate_left
              · simp only [Act.put, List.setIfInBounds_toArray, List.set_cons_zero, List.set_cons_succ]
                rfl
              refine done_ (by kernel_rfl) ?_
              go_wp2
              exact ⟨⟨j + 1, by go_num, by omega, ⟨by rw [HNY.out, if_pos (by first | exact trivial | exact rfl), ← List.append_assoc, ← HQE.out]; exact HR2.out⟩, HB2'⟩, by simp [intOf]; omega⟩
            · have e2 : decide (y.f0.f0 < x.f1.f1) = false := decide_eq_false m2
              have hmb : meetB x.f1 y.f0 = false := by unfold meetB; rw [e2, Bool.and_false]
              rw [hmb] at HNY
              clear hmb
              go_wp2
              go_quiet (fail)
              go_wp2
              exact ⟨⟨j + 1, by go_num, by omega, ⟨by rw [HNY.out, if_neg (by decide), List.append_nil, ← HQE.out]; exact Kd.R_drewN HR.out _⟩, ⟨pw_below_drewN HB.out _⟩⟩, by simp [intOf]; omega⟩
          · have e1 : decide (x.f1.f0 < y.f0.f1) = false := decide_eq_false m1
            have hmb : meetB x.f1 y.f0 = false := by unfold meetB; rw [e1, Bool.false_and]
            rw [hmb] at HNY
            clear hmb
            go_wp2
            go_quiet (fail)
            go_wp2
            exact ⟨⟨j + 1, by go_num, by omega, ⟨by rw [HNY.out, if_neg (by decide), List.append_nil, ← HQE.out]; exact Kd.R_drewN HR.out _⟩, ⟨pw_below_drewN HB.out _⟩⟩, by simp [intOf]; omega⟩
        · obtain rfl : j = b.length := by omega
          rw [List.take_length] at HR
          clear hlj
          go_wp2
          exact ⟨⟨k + 1, by go_num, by omega, ⟨by rw [HNX.out]; exact HR.out⟩, HB⟩, by simp [intOf]; omega⟩
    · obtain rfl : k = a.length := by omega
      rw [List.take_length] at HR
      clear hlt
      have HS := Aside0.mk (SLk.of_R HR.out)
      go_wp2_with (go_at_call 33; refine (HFIN.out _ _ HS.out HB.out).mono ?_; rintro e w12 ⟨u, r, rfl, hR, hb12⟩; have HRR := Aside0.mk hR; have HB12 : Aside0 (Below w.heap.size w w12) := ⟨below_step HB.out hb12⟩; clear hR hb12)
      refine bodyPost_ret (results_tmp2 rfl _ _ _) rfl ?_
      exact ⟨_, _, rfl, HRR.out, HB12.out⟩
end Go.Proofs.Ytohhobcipfmkbaa.CFin
