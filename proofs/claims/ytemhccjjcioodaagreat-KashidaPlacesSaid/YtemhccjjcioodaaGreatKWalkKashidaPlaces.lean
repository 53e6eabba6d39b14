/- Texts of this claim, cut to what it needs. -/
import Derived.Test.YtemhccjjcioodaaGreatKKAwk
set_option linter.unusedSimpArgs false
set_option linter.unusedVariables false
namespace Go.Proofs.YtemhccjjcioodaaGreat
open Go.RowKit Go.Proofs.YtemhccjjcioodaaGreatW.PrintWords Go.Proofs.YtemhccjjcioodaaGreatW.PrintMore Go.Proofs.YtemhccjjcioodaaGreatW.PrintLast Go.Proofs.YtemhccjjcioodaaGreat.U Go.Proofs.YtemhccjjcioodaaGreat.PClusterFinest Go.Proofs.YtemhccjjcioodaaGreat.KPlace Go.Proofs.YtemhccjjcioodaaGreat.UKash Go.Proofs.YtemhccjjcioodaaGreat.KRank
open Go.Proofs.YtemhccjjcioodaaGreat.UJoin (joinedI behindI)
open Go.Proofs.YtemhccjjcioodaaGreat.CProps (PropsAt)
open Go.Proofs.YtemhccjjcioodaaGreat.PKashidaStretches (naskhref14_Alef.f naskhref09_Ligate.f naskhref09_Ligate.calls)
theorem info4 : (Tryz.prog.info? 4).map (fun i => (i.zero, i.size, i.bytes)) = some (some (.bool false), 1, 1) := by kernel_rfl
theorem ligate_c (c : Int) (w : World) : Calls Tryz.prog 25 #[.int .i64 c, .int .i64 1] w fun e w' => ∃ x : Int, e = .returned (.tuple #[.int .i64 x, .bool (alefB c)]) ∧ Below w.heap.size w w' := by
 have h := ralef_f c
 unfold naskhref14_Alef.f at h
 cases hl : naskhref09_Ligate.f 20 c 1 with
 | none => rw [hl] at h; cases h
 | some p =>
  obtain ⟨x, b⟩ := p
  rw [hl] at h
  have hb : b = alefB c := Option.some.inj h
  subst hb
  exact (naskhref09_Ligate.calls 20 c 1 x _ w hl).mono fun e w' h => ⟨x, h.1, h.2⟩
theorem placesN_nodup (xs ts : List Int) (n : Nat) : (placesN xs ts n).Nodup :=
 (placesN_sorted xs ts n 6).imp (fun {a b} h e => by subst e; rcases h with h | h <;> simp at h)
theorem not_in_take {l : List Nat} (h : l.Nodup) {k : Nat} (hk : k < l.length) : l[k] ∉ l.take k := by
 intro hm
 obtain ⟨j, hj, e⟩ := List.mem_iff_getElem.1 hm
 rw [List.length_take] at hj
 rw [List.getElem_take] at e
 exact List.pairwise_iff_getElem.1 h j k (by omega) hk (by omega) e
set_option maxRecDepth 100000 in
set_option maxHeartbeats 16000000 in
theorem kashidaPlacesWalk (l0 : List Int) (w : World) (A0 : Option Addr) (c0 : Nat) (hr0 : Kd.C (Kd.int .i64) w A0 l0.length l0) (hc0 : l0.length ≤ c0) (hm0 : l0.length ≤ maxLen) (_ : l0.length * 8 ≤ 140737488351232) (_ : ∀ x ∈ l0, (Lit.int .i64 x).wf = true) :
 Calls Tryz.prog 4 #[.slice A0 l0.length c0] w fun e w' => e = .returned (.bool true) ∧ Below w.heap.size w w' := by
 have H := Aside0.mk (SLk.mk hr0 hc0)
 clear hr0 hc0 hm0
 by_cases g : 100 < l0.length
 ·have g1 : (l0.length : Int) > 100 := by omega
  clear g
  go_enter Tryz.func4, Tryz.ntmps4
  go_wp2_with fail
  refine KAwk.awake_c.mono ?_
  rintro e w1 ⟨rfl, hb⟩
  go_wp2
  go_ret
  exact ⟨rfl, hb⟩
 ·have g1 : ¬ (l0.length : Int) > 100 := by omega
  have HM : Aside0 (l0.length ≤ 100) := ⟨by omega⟩
  clear g
  obtain ⟨ts, hts⟩ : ∃ ts, ts = l0.map CJoins.jn := ⟨_, rfl⟩
  have HTL : Aside0 (ts.length = l0.length) := ⟨by rw [hts, List.length_map]⟩
  have HTS := Aside0.mk hts
  obtain ⟨ps, hps⟩ : ∃ ps, ps = placesN l0 ts l0.length := ⟨_, rfl⟩
  have HPS := Aside0.mk hps
  clear hts hps
  go_enter Tryz.func4, Tryz.ntmps4
  go_upto_region 6 with (first | (go_at_call 23; refine (CJoins.joins_c H.out (by have := HM.out; omega)).mono ?_; rintro e w1 ⟨u, rfl, hs, hb⟩; rw [← HTS.out] at hs; obtain ⟨B, d, ed, -, -⟩ := id hs; subst ed; rw [HTL.out]; have HT : Aside0 (SL w1 (.slice B l0.length d) ts) := ⟨by rw [← HTL.out]; exact hs⟩; have HB1 := Aside0.mk hb; clear hs hb) | ((with_reducible refine gate_dst (N := 17) rfl ?_); refine Kd.R_make Kd.bool (w0 := w1) w1.heap.size 4 rfl rfl 41 (.tmp 16) (.tmp 16) rfl (l0.length : Int) (by first | (go_simp; done) | (go_simp; rfl)) (by first | (go_simp; done) | (go_simp; rfl)) Tryz.underlying41 (.bool false) 1 info4 rfl (by decide) (by omega) false (ok := fun _ => True) (okp := fun _ => False) rfl (fun _ h => h.elim) trivial (by omega) (by have := HM.out; simp only [Int.toNat_natCast]; omega) (Below.refl _ _) (Nat.le_refl _) ?_; intro v5 w5 hv hb hg hat; rw [Int.toNat_natCast] at hv; obtain ⟨Am, cm, em⟩ := Kd.R_slice hv; rw [List.length_replicate] at em; subst em; have HV5 : Aside0 (Kd.R Kd.bool 4 w5 w1.heap.size (fun _ => True) (.slice Am l0.length cm) (List.replicate l0.length false)) := ⟨hv⟩; have HB5 := Aside0.mk hb; clear hv hb hg hat) | (go_at_call 14; refine (CProps.new_c _).mono ?_; rintro e w6 ⟨gp, rfl, hp, hb⟩; have HP6 := Aside0.mk hp; have HB6 : Aside0 (Below w1.heap.size w1 w6) := ⟨below_step HB5.out hb⟩; have HV6 := Aside0.mk (Kd.R_below HV5.out hb); clear hp hb) | (go_at_call 19; refine (KPlaces.places_c HP6.out (SLk.below H.out (below_step HB1.out HB6.out)) (by have := HM.out; omega)).mono ?_; rintro e w7 ⟨u7, rfl, hr, hb⟩; rw [← HTS.out, ← HPS.out] at hr; obtain ⟨Ap, cp, ep⟩ := Kd.R_slice hr; rw [List.length_map] at ep; subst ep; have HR7 := Aside0.mk hr; have HV7 := Aside0.mk (Kd.R_below HV6.out hb); have HB7 : Aside0 (Below w1.heap.size w1 w7) := ⟨below_step HB6.out hb⟩; have HB67 : Aside0 (w1.heap.size ≤ w6.heap.size) := ⟨HB6.out.size⟩; clear hr hb))
  clear HV5 HB5 HP6 HB6 HV6
  go_loopw [22] (fun v wr => ∃ (k : Nat) (bs : List Bool), v = .int .i64 k ∧ k ≤ ps.length ∧ Aside0 (∀ j : Nat, bs.getD j false = true → j ∈ ps.take k) ∧ Aside0 (Kd.R Kd.bool 4 wr w1.heap.size (fun _ => True) (.slice Am l0.length cm) bs) ∧ Aside0 (Kd.R (Kd.int .i64) 3 wr w1.heap.size (fun _ => True) (.slice Ap ps.length cp) (ps.map fun i : Nat => (i : Int))) ∧ Aside0 (Below w1.heap.size w1 wr)) (fun v _ => ps.length - (intOf v).toNat)
  case atStart => exact ⟨0, List.replicate l0.length false, rfl, Nat.zero_le _, ⟨fun j hj => by simp [List.getD_eq_getElem?_getD, List.getElem?_replicate] at hj; split at hj <;> simp at hj⟩, HV7, ⟨Kd.R_lower HR7.out (by have := HB67.out; omega)⟩, HB7⟩
  case round =>
   clear HV7 HR7 HB7 HB67
   obtain ⟨k, bs, rfl, hk, HS, HV, HR, HB⟩ := hrel
   by_cases hlk : k < ps.length
   ·have hkI : (k : Int) < (ps.length : Int) := by omega
    have hk0 : 0 ≤ (k : Int) := by omega
    have hk9 : (k : Int) ≤ 600 := by
     have h1 := KStretch.placesN_le HPS.out; have := HM.out; omega
    obtain ⟨adp, cp', ep, d0⟩ := SLk.at_int (SLk.of_R HR.out) (k : Int) hk0 (by rw [List.length_map]; exact hkI)
    injection ep with ep e2 e3
    clear e2 e3
    subst ep
    rw [Int.toNat_natCast, rd_get (by rw [List.length_map]; exact hlk), List.getElem_map] at d0
    have hmem : ps[k] ∈ placesN l0 ts l0.length := by rw [← HPS.out]; exact List.getElem_mem _
    obtain ⟨hpl, hpb⟩ := mem_placesN.1 hmem
    have hnot : bs.getD ps[k] false = false := by
     cases hb : bs.getD ps[k] false with
     | false => rfl
     | true => exact absurd (HS.out _ hb) (not_in_take (by rw [HPS.out]; exact placesN_nodup _ _ _) hlk)
    have HNX : Aside0 (∀ j : Nat, (bs.set ps[k] true).getD j false = true → j ∈ ps.take (k + 1)) := ⟨fun j hj => by
     rw [List.take_succ_eq_append_getElem hlk]
     by_cases e : j = ps[k]
     ·exact List.mem_append_right _ (List.mem_singleton.2 e)
     ·rw [List.getD_eq_getElem?_getD, List.getElem?_set_ne (fun h => e h.symm), ← List.getD_eq_getElem?_getD] at hj
      exact List.mem_append_left _ (HS.out j hj)⟩
    generalize ps[k] = p at d0 hpl hpb hnot HNX
    clear hmem
    have hp0 : ¬ (p : Int) < 0 := by omega
    have hp1 : ¬ (p : Int) ≥ (l0.length : Int) := by omega
    have hpI : (p : Int) < (l0.length : Int) := by omega
    have hp00 : 0 ≤ (p : Int) := by omega
    unfold placeB at hpb
    rw [Bool.and_eq_true] at hpb
    obtain ⟨hjo, hal⟩ := hpb
    have hbl : (bs.length : Int) = l0.length := by have := (Kd.R_reads' HV.out).1; omega
    obtain ⟨gm, capm, em, hgb, hgl, cls, hcl⟩ := Kd.R_form HV.out (by omega)
    injection em with em e2 e3
    clear e2
    subst em
    subst e3
    obtain ⟨z9, z1⟩ := Kd.R_celln false HV.out (p : Int) hp00 hpI
    rw [Int.toNat_natCast] at z9 z1
    have z0 : wr.cell? ⟨gm, p, none⟩ = some (.bool false) := by
     rw [z9]
     unfold rdOf
     rw [Int.toNat_natCast, hnot]
    clear z9 hnot
    have hb0 : 0 ≤ behindI ts p := by
     unfold UJoin.joinedI at hjo
     simp only [Bool.and_eq_true, decide_eq_true_eq] at hjo
     exact hjo.1.1
    have hb1 : behindI ts p < (l0.length : Int) := by
     have h2 := PureJoin.behindI_range ts p
     have := HTL.out
     omega
    have HBw : Aside0 (Below w.heap.size w wr) := ⟨below_step HB1.out HB.out⟩
    have HJO := Aside0.mk hjo
    obtain ⟨b, hb⟩ : ∃ b, b = behindI ts p := ⟨_, rfl⟩
    rw [← hb] at hb0 hb1 hal
    have HBE := Aside0.mk hb
    obtain ⟨adx, cx', ex, c1⟩ := SLk.at_int H.out b hb0 hb1
    obtain ⟨adx', cx2, ex', c2⟩ := SLk.at_int H.out (p : Int) hp00 hpI
    injection ex with ex e2 e3
    clear e2 e3
    subst ex
    injection ex' with ex' e2 e3
    clear e2 e3
    obtain rfl := Option.some.inj ex'
    rw [Int.toNat_natCast] at c2
    clear ex'
    generalize rd l0 b = x at c1 hal
    generalize rd l0 (p : Int) = y at c2 hal
    have HC1 := Aside0.mk c1
    have HC2 := Aside0.mk c2
    have HGB := Aside0.mk hgb
    have HCL : Aside0 (∀ q, q ∈ (3 : Nat) :: (Kd.int .i64).E → q ≠ 4) := ⟨by decide⟩
    have HBB := Aside0.mk hb0
    have HBL := Aside0.mk hb1
    have HKL := Aside0.mk hlk
    clear hjo hb c1 c2 hgb hgl hcl hlk hk hpl hbl
    cases ha : alefB x with
    | false =>
     have HA := Aside0.mk ha
     clear ha hal
     go_upto_region 10 with (first | (go_at_call 24; refine (CJoin3.rjoined_c (SLk.below HT.out HB.out) (by have := HM.out; have := HTL.out; omega) (p : Int)).mono ?_; rintro e w8 ⟨rfl, hb⟩; rw [HJO.out]; clear z0 z1; have HV8 := Aside0.mk (Kd.R_below HV.out hb); have HR8 := Aside0.mk (Kd.R_below HR.out hb); have HB8 : Aside0 (Below w1.heap.size w1 w8) := ⟨below_step HB.out hb⟩; obtain ⟨z0, z1⟩ := Kd.R_celln false HV8.out (p : Int) hp00 hpI; rw [Int.toNat_natCast] at z0 z1; clear hb))
     obtain ⟨hp, hg⟩ := Kd.R_putg HV8.out (p : Int) true
     rw [Int.toNat_natCast] at hp hg
     obtain ⟨cls8, hcl8⟩ := Kd.R_typed HV8.out gm rfl
     have HVE := Aside0.mk hp
     have HRE := Aside0.mk (Kd.R_set HR8.out hcl8 HCL.out p (.bool true))
     have HBE2 : Aside0 (Below w1.heap.size w1 (w8.setCell ⟨gm, p, none⟩ (.bool true))) := ⟨HB8.out.setCell (p := ⟨gm, p, none⟩) HGB.out _⟩
     clear hp hg hcl8
     generalize hw9 : w8.setCell ⟨gm, p, none⟩ (.bool true) = w9 at HVE HRE HBE2
     go_upto_region 11 with (fail)
     clear hw9 z0 z1
     go_wp2_with (first | (go_at_call 26; refine (CJoin3.rbehind_c (SLk.below HT.out HBE2.out) (by have := HM.out; have := HTL.out; omega) (p : Int)).mono ?_; rintro e w10 ⟨rfl, hb⟩; rw [← HBE.out]; have HVA := Aside0.mk (Kd.R_below HVE.out hb); have HRA := Aside0.mk (Kd.R_below HRE.out hb); have HB10 : Aside0 (Below w1.heap.size w1 w10) := ⟨below_step HBE2.out hb⟩; have d1 := ((below_step HB1.out HB10.out).cell (World.block_lt_of_cell? _ _ HC1.out)).trans HC1.out; clear hb) | (go_at_call 25; refine (ligate_c x w10).mono ?_; rintro e w11 ⟨z, rfl, hb⟩; rw [HA.out]; clear d1; have HVB := Aside0.mk (Kd.R_below HVA.out hb); have HRB := Aside0.mk (Kd.R_below HRA.out hb); have HB11 : Aside0 (Below w1.heap.size w1 w11) := ⟨below_step HB10.out hb⟩; have d2 := ((below_step HB1.out HB11.out).cell (World.block_lt_of_cell? _ _ HC2.out)).trans HC2.out; clear hb))
     exact ⟨⟨k + 1, _, by go_num, by have := HKL.out; omega, HNX, HVB, HRB, HB11⟩, by have := HKL.out; simp [intOf]; omega⟩
    | true =>
     have HA := Aside0.mk ha
     have hy : ¬ y = 1604 := by rw [ha] at hal; simpa using hal
     clear ha hal
     go_upto_region 10 with (first | (go_at_call 24; refine (CJoin3.rjoined_c (SLk.below HT.out HB.out) (by have := HM.out; have := HTL.out; omega) (p : Int)).mono ?_; rintro e w8 ⟨rfl, hb⟩; rw [HJO.out]; clear z0 z1; have HV8 := Aside0.mk (Kd.R_below HV.out hb); have HR8 := Aside0.mk (Kd.R_below HR.out hb); have HB8 : Aside0 (Below w1.heap.size w1 w8) := ⟨below_step HB.out hb⟩; obtain ⟨z0, z1⟩ := Kd.R_celln false HV8.out (p : Int) hp00 hpI; rw [Int.toNat_natCast] at z0 z1; clear hb))
     obtain ⟨hp, hg⟩ := Kd.R_putg HV8.out (p : Int) true
     rw [Int.toNat_natCast] at hp hg
     obtain ⟨cls8, hcl8⟩ := Kd.R_typed HV8.out gm rfl
     have HVE := Aside0.mk hp
     have HRE := Aside0.mk (Kd.R_set HR8.out hcl8 HCL.out p (.bool true))
     have HBE2 : Aside0 (Below w1.heap.size w1 (w8.setCell ⟨gm, p, none⟩ (.bool true))) := ⟨HB8.out.setCell (p := ⟨gm, p, none⟩) HGB.out _⟩
     clear hp hg hcl8
     generalize hw9 : w8.setCell ⟨gm, p, none⟩ (.bool true) = w9 at HVE HRE HBE2
     go_upto_region 11 with (fail)
     clear hw9 z0 z1
     go_wp2_with (first | (go_at_call 26; refine (CJoin3.rbehind_c (SLk.below HT.out HBE2.out) (by have := HM.out; have := HTL.out; omega) (p : Int)).mono ?_; rintro e w10 ⟨rfl, hb⟩; rw [← HBE.out]; have HVA := Aside0.mk (Kd.R_below HVE.out hb); have HRA := Aside0.mk (Kd.R_below HRE.out hb); have HB10 : Aside0 (Below w1.heap.size w1 w10) := ⟨below_step HBE2.out hb⟩; have d1 := ((below_step HB1.out HB10.out).cell (World.block_lt_of_cell? _ _ HC1.out)).trans HC1.out; clear hb) | (go_at_call 25; refine (ligate_c x w10).mono ?_; rintro e w11 ⟨z, rfl, hb⟩; rw [HA.out]; clear d1; have HVB := Aside0.mk (Kd.R_below HVA.out hb); have HRB := Aside0.mk (Kd.R_below HRA.out hb); have HB11 : Aside0 (Below w1.heap.size w1 w11) := ⟨below_step HB10.out hb⟩; have d2 := ((below_step HB1.out HB11.out).cell (World.block_lt_of_cell? _ _ HC2.out)).trans HC2.out; clear hb))
     exact ⟨⟨k + 1, _, by go_num, by have := HKL.out; omega, HNX, HVB, HRB, HB11⟩, by have := HKL.out; simp [intOf]; omega⟩
   ·obtain rfl : k = ps.length := by omega
    have HBw : Aside0 (Below w.heap.size w wr) := ⟨below_step HB1.out HB.out⟩
    clear hlk hk
    go_wp2_with (go_at_call 13; refine KAwk.awake_c.mono ?_; rintro e w9 ⟨rfl, hb⟩; have HB9 : Aside0 (Below w.heap.size w w9) := ⟨below_step HBw.out hb⟩; clear hb)
    go_ret
    exact ⟨rfl, HB9.out⟩
end Go.Proofs.YtemhccjjcioodaaGreat
