/- Texts of this claim, cut to what it needs. -/
import Derived.Test.YtohhobcipfmkbaaKUWhole
import Derived.Test.YtohhobcipfmkbaaKCCompP
import Derived.Test.YtohhobcipfmkbaaKCStab2
import Derived.Test.YtohhobcipfmkbaaKCAwk
namespace Go.Proofs.Ytohhobcipfmkbaa.CFin
open Go.RowKit Go.Maps Go.Proofs.YtohhobcipfmkbaaW.PrintWords Go.Proofs.YtohhobcipfmkbaaW.PrintMore Go.Proofs.YtohhobcipfmkbaaW.PrintLast Go.Proofs.Ytohhobcipfmkbaa.U Go.Proofs.Ytohhobcipfmkbaa.PClusterFinest Go.Proofs.Ytohhobcipfmkbaa.UFinest Go.Proofs.Ytohhobcipfmkbaa.UFinEv Go.Proofs.Ytohhobcipfmkbaa.UWhole
set_option linter.unusedVariables false
set_option linter.unusedSimpArgs false
theorem endS_snoc (l : List S33) (x : S33) : endS (l ++ [x]) = max (endS l) x.f1 := by unfold endS; rw [List.foldl_append]; rfl
theorem mx_is (a b : Int) : (if a < b then b else a) = max a b := by split <;> omega
set_option maxRecDepth 100000 in
set_option maxHeartbeats 2000000 in
theorem ends_c {w : World} {v : Value} {l : List S45} (h : SLk k45 w v l) (hl : l.length ≤ 1000000) :
    Calls Try.prog 71 #[v] w fun e w' => e = .returned (.tuple #[.int .i64 (endS (l.map (·.f0))), .int .i64 (endS (l.map (·.f1)))]) ∧ Below w.heap.size w w' := by
  have H := Aside0.mk h
  have HL := Aside0.mk hl
  obtain ⟨A, c, rfl, hcc, hC⟩ := h
  clear hcc hC
  go_enter Try.func71, Try.ntmps71
  go_upto_region 2 with (first | (go_at_call 52; refine (sides_c H.out HL.out).mono ?_; rintro e w1 ⟨u1, u2, rfl, a1, a2, a3, a4⟩; obtain ⟨A1, c1, rfl⟩ := Kd.R_slice a1; obtain ⟨A2, c2, rfl⟩ := Kd.R_slice a2; have HC1 := Aside0.mk (Kd.R_reads' a1).2.2; have HC2 := Aside0.mk (Kd.R_reads' a2).2.2; have HB1 := Aside0.mk a4; clear a1 a2 a3 a4))
  rw [List.length_map] at HC1 HC2
  try rw [List.length_map, List.length_map]
  go_wp2
  go_loopw [6, 7, 16] (fun v6 v7 v wr => ∃ k : Nat, v = .int .i64 (k : Int) ∧ k ≤ l.length ∧ v6 = .int .i64 (endS ((l.take k).map (·.f0))) ∧ v7 = .int .i64 (endS ((l.take k).map (·.f1))) ∧ Aside0 (Kd.C k33 wr A1 l.length (l.map (·.f0))) ∧ Aside0 (Kd.C k33 wr A2 l.length (l.map (·.f1))) ∧ Aside0 (Below w.heap.size w wr)) (fun _ _ v _ => l.length - (intOf v).toNat)
  case atStart => exact ⟨0, rfl, Nat.zero_le _, rfl, rfl, HC1, HC2, HB1⟩
  case round =>
    clear HC1 HC2 HB1
    obtain ⟨k, rfl, hk, rfl, rfl, HC1, HC2, HB⟩ := hrel
    by_cases hlt : k < l.length
    · obtain ⟨x, hx⟩ : ∃ x, x = l[k] := ⟨_, rfl⟩
      have h1 : k < (l.map (·.f0)).length := by rw [List.length_map]; exact hlt
      have h2 : k < (l.map (·.f1)).length := by rw [List.length_map]; exact hlt
      have hC1 : Kd.C k33 wr A1 (l.map (·.f0)).length (l.map (·.f0)) := by rw [List.length_map]; exact HC1.out
      have hC2 : Kd.C k33 wr A2 (l.map (·.f1)).length (l.map (·.f1)) := by rw [List.length_map]; exact HC2.out
      obtain ⟨ad, ead, c0, c1'⟩ := at_T33 hC1 (k : Int) (by omega) (by omega)
      obtain ⟨ae, eae, d0, d1⟩ := at_T33 hC2 (k : Int) (by omega) (by omega)
      rw [rd33 h1, Int.toNat_natCast, List.getElem_map, ← hx] at c0 c1'
      rw [rd33 h2, Int.toNat_natCast, List.getElem_map, ← hx] at d0 d1
      have HN : Aside0 (endS ((l.take (k + 1)).map (·.f0)) = max (endS ((l.take k).map (·.f0))) x.f0.f1 ∧ endS ((l.take (k + 1)).map (·.f1)) = max (endS ((l.take k).map (·.f1))) x.f1.f1) := ⟨by
        rw [List.take_succ_eq_append_getElem hlt, ← hx, List.map_append, List.map_append]
        exact ⟨endS_snoc _ _, endS_snoc _ _⟩⟩
      obtain ⟨e1, he1⟩ : ∃ e1, e1 = endS ((l.take k).map (·.f0)) := ⟨_, rfl⟩
      obtain ⟨e2, he2⟩ : ∃ e2, e2 = endS ((l.take k).map (·.f1)) := ⟨_, rfl⟩
      rw [← he1, ← he2] at HN ⊢
      have hkI : (k : Int) < (l.length : Int) := by omega
      subst ead eae
      clear hx h1 h2 hC1 hC2 he1 he2
      go_wp2
      go_quiet (fail)
      go_wp2
      exact ⟨⟨k + 1, by go_num, by omega, by rw [HN.out.1, ← mx_is], by rw [HN.out.2, ← mx_is], ⟨Kd.C_drewN HC1.out _⟩, ⟨Kd.C_drewN HC2.out _⟩, ⟨pw_below_drewN HB.out _⟩⟩, by simp [intOf]; omega⟩
    · obtain rfl : k = l.length := by omega
      rw [List.take_length]
      clear hlt
      go_wp2
      refine bodyPost_ret (results_tmp2 rfl _ _ _) rfl ?_
      exact ⟨rfl, HB.out⟩
def filL (x : S45) (b : List S45) : List S45 := (b.filter fun y => meetB x.f1 y.f0).map fun y => (⟨x.f0, y.f1⟩ : S45)
theorem compL_take {a b : List S45} {k : Nat} (h : k < a.length) : compL (a.take (k + 1)) b = compL (a.take k) b ++ filL a[k] b := by
  unfold compL
  rw [List.take_succ_eq_append_getElem h, List.flatMap_append]
  simp [filL]
theorem filL_take {x : S45} {b : List S45} {j : Nat} (h : j < b.length) : filL x (b.take (j + 1)) = filL x (b.take j) ++ (if meetB x.f1 b[j].f0 then [⟨x.f0, b[j].f1⟩] else []) := by
  unfold filL
  rw [List.take_succ_eq_append_getElem h, List.filter_append, List.map_append]
  congr 1
  by_cases hc : meetB x.f1 b[j].f0 = true
  · rw [if_pos hc]; simp [List.filter, hc]
  · rw [if_neg hc]; simp [List.filter, hc]
theorem filL_len (x : S45) (b : List S45) : (filL x b).length ≤ b.length := by
  unfold filL; rw [List.length_map]; exact List.length_filter_le _ _
theorem meet_is (a b : S33) : cluster_meet.f a.f0 a.f1 b.f0 b.f1 = some (meetB a b) := by
  unfold cluster_meet.f meetB
  by_cases h : a.f0 < b.f1
  · rw [if_pos h]; simp [h]
  · rw [if_neg h]; simp [h]
def Srt (d : List S33) (l : List S45) : Prop := d.Perm (l.map (·.f1)) ∧ d.Pairwise (fun a b => ¬ b.f0 < a.f0)

set_option maxRecDepth 100000 in
set_option maxHeartbeats 8000000 in
theorem comp_yes {w : World} {va vb : Value} {a b : List S45} (ha : SLk k45 w va a) (hb : SLk k45 w vb b) (hla : a.length ≤ 60) (hlb : b.length ≤ 60) (R : Value → Int → World → Prop)
    (hr1 : ∀ d, Srt d a → CSort.checkB (endS (a.map (·.f0))) (endS (a.map (·.f1))) a d = true) (hr2 : ∀ d, Srt d b → CSort.checkB (endS (a.map (·.f1))) (endS (b.map (·.f1))) b d = true)
    (hfin : ∀ w1 u, SLk k45 w1 u (compL a b) → Below w.heap.size w w1 → Calls Try.prog 32 #[.int .i64 (endS (a.map (·.f0))), .int .i64 (endS (b.map (·.f1))), u] w1 fun e w' => ∃ u r, e = .returned (.tuple #[u, .int .i64 r]) ∧ R u r w' ∧ Below w1.heap.size w1 w') :
    Calls Try.prog 38 #[va, vb] w fun e w' => ∃ u r, e = .returned (.tuple #[u, .int .i64 r]) ∧ R u r w' ∧ Below w.heap.size w w' := by
  have HA := Aside0.mk ha
  have HQ := Aside0.mk hb
  have HLA : Aside0 (a.length < 1000000) := ⟨by omega⟩
  have HLQ : Aside0 (b.length < 1000000) := ⟨by omega⟩
  have HFIN := Aside0.mk hfin
  have HD := Aside0.mk hr1
  have HE := Aside0.mk hr2
  have T0 : Aside0 True := ⟨trivial⟩
  have T1 : Aside0 True := ⟨trivial⟩
  obtain ⟨A, ca, rfl, _, hCA⟩ := ha
  obtain ⟨B, cb, rfl, _, hCB⟩ := hb
  have HCA := Aside0.mk hCA
  have HCB := Aside0.mk hCB
  clear hr1 hr2 hfin hCA hCB
  obtain ⟨n, hn⟩ : ∃ n, n = endS (a.map (·.f0)) := ⟨_, rfl⟩
  obtain ⟨m, hm⟩ : ∃ m, m = endS (a.map (·.f1)) := ⟨_, rfl⟩
  obtain ⟨kk, hk⟩ : ∃ k, k = endS (b.map (·.f1)) := ⟨_, rfl⟩
  have HN := Aside0.mk hn
  have HM := Aside0.mk hm
  have HK := Aside0.mk hk
  rw [← hn, ← hm] at HD
  rw [← hm, ← hk] at HE
  rw [← hn, ← hk] at HFIN
  clear hn hm hk
  go_enter Try.func38, Try.ntmps38
  go_upto_region 5 with (first | (go_at_call 71; have tk := T0.out; clear T0 tk; refine (ends_c HA.out (by have := HLA.out; omega)).mono ?_; rintro e w1 ⟨rfl, hb1⟩; rw [← HN.out, ← HM.out]; have HB1 := Aside0.mk hb1; have HA1 := Aside0.mk (SLk.below HA.out hb1); have HQ1 := Aside0.mk (SLk.below HQ.out hb1); clear hb1) | (go_at_call 71; refine (ends_c HQ1.out (by have := HLQ.out; omega)).mono ?_; rintro e w2 ⟨rfl, hb2⟩; rw [← HK.out]; have HB2 : Aside0 (Below w.heap.size w w2) := ⟨below_step HB1.out hb2⟩; have HA2 := Aside0.mk (SLk.below HA1.out hb2); have HQ2 := Aside0.mk (SLk.below HQ1.out hb2); clear hb2) | (go_at_call 29; have tk := T1.out; clear T1 tk; refine (CSort.check_c _ _ HA2.out HLA.out).mono ?_; rintro e w3 ⟨d1, hp, hs, rfl, hb3⟩; have HS1 := Aside0.mk (HD.out d1 ⟨hp, hs⟩); rw [HS1.out]; have HB3 : Aside0 (Below w.heap.size w w3) := ⟨below_step HB2.out hb3⟩; have HA3 := Aside0.mk (SLk.below HA2.out hb3); have HQ3 := Aside0.mk (SLk.below HQ2.out hb3); clear hp hs hb3) | (go_at_call 29; refine (CSort.check_c _ _ HQ3.out HLQ.out).mono ?_; rintro e w4 ⟨d2, hp, hs, rfl, hb4⟩; rw [HE.out d2 ⟨hp, hs⟩]; have HB4 : Aside0 (Below w.heap.size w w4) := ⟨below_step HB3.out hb4⟩; have HA4 := Aside0.mk (SLk.below HA3.out hb4); have HQ4 := Aside0.mk (SLk.below HQ3.out hb4); clear hp hs hb4))
  go_wp2
  go_loopw [10, 39] (fun v10 v wr => ∃ k : Nat, v = .int .i64 (k : Int) ∧ k ≤ a.length ∧ Aside0 (Kd.R k45 45 wr w.heap.size (fun _ => True) v10 (compL (a.take k) b)) ∧ Aside0 (Below w.heap.size w wr)) (fun _ v _ => a.length - (intOf v).toNat)
  case atStart => exact ⟨0, rfl, Nat.zero_le _, ⟨Kd.R_nil _ _ _ _ _⟩, HB4⟩
  case round =>
    obtain ⟨wo, ewo⟩ : ∃ wo, wo = wr := ⟨_, rfl⟩
    subst ewo
    obtain ⟨k, rfl, hk, HR, HB⟩ := hrel
    by_cases hlt : k < a.length
    · obtain ⟨x, hx⟩ : ∃ x, x = a[k] := ⟨_, rfl⟩
      have HNX : Aside0 (compL (a.take (k + 1)) b = compL (a.take k) b ++ filL x b) := ⟨by rw [hx]; exact compL_take hlt⟩
      have HLO : Aside0 ((compL (a.take k) b).length ≤ 3600) := ⟨by
        have h1 := compL_len (a.take k) b
        have h2 : (a.take k).length ≤ 60 := by rw [List.length_take]; omega
        have h3 := Nat.mul_le_mul h2 hlb
        omega⟩
      obtain ⟨o, ho⟩ : ∃ o, o = compL (a.take k) b := ⟨_, rfl⟩
      rw [← ho] at HR HNX HLO
      obtain ⟨ad, ead, c0, c1, c2, c3⟩ := at_T45 (Kd.C_below HCA.out HB.out) (k : Int) (by omega) (by omega)
      rw [rd45 hlt, Int.toNat_natCast, ← hx] at c0 c1 c2 c3
      have hkI : (k : Int) < (a.length : Int) := by omega
      obtain ⟨AX, cx, exl⟩ := Kd.R_slice HR.out
      subst exl
      subst ead
      clear hx ho
      go_upto_region 9 with (first | ((with_reducible refine gate_dst (N := 12) rfl ?_); refine box_event ?hg (N := 12) ?hd (cs := #[.int .i64 0, .int .i64 0, .int .i64 0, .int .i64 0]) (t := 45) ?hr ?_; (case hd => rfl); (case hg => rfl); (case hr => first | (go_simp; done) | (go_simp; rfl)); intro gb hg w6 hbox hb; have HXgb := Aside0.mk hbox; have HGEgb : Aside0 (w.heap.size ≤ gb) := ⟨by rw [hg]; exact HB.out.size⟩; have HBBgb : Aside0 (Below w.heap.size w w6) := ⟨below_step HB.out hb⟩; have zgb_0 : w6.cell? ⟨gb, 0, none⟩ = some (.int .i64 0) := (blk_cell hbox 0).trans rfl; have fgb_0 := blk_frozen hbox 0; have zgb_1 : w6.cell? ⟨gb, 1, none⟩ = some (.int .i64 0) := (blk_cell hbox 1).trans rfl; have fgb_1 := blk_frozen hbox 1; have zgb_2 : w6.cell? ⟨gb, 2, none⟩ = some (.int .i64 0) := (blk_cell hbox 2).trans rfl; have fgb_2 := blk_frozen hbox 2; have zgb_3 : w6.cell? ⟨gb, 3, none⟩ = some (.int .i64 0) := (blk_cell hbox 3).trans rfl; have fgb_3 := blk_frozen hbox 3; have HR6 : Aside0 (Kd.R k45 45 w6 w.heap.size (fun p => p ≠ gb) (.slice AX o.length cx) o) := ⟨Kd.R_mono (Kd.R_below (Kd.R_bound HR.out) hb) (fun p hp => by omega)⟩; clear hg hbox hb HB HR))
      have HYgb := Aside0.mk (blk_put (blk_put (blk_put (blk_put HXgb.out 0 (.int .i64 x.f0.f0) rfl) 1 (.int .i64 x.f0.f1) rfl) 2 (.int .i64 x.f1.f0) rfl) 3 (.int .i64 x.f1.f1) rfl)
      have HGgb := Aside0.mk (World.grownBy.trans (World.grownBy.trans (World.grownBy.trans (grown_set w6 gb 0 (.int .i64 x.f0.f0)) (grown_set _ gb 1 (.int .i64 x.f0.f1))) (grown_set _ gb 2 (.int .i64 x.f1.f0))) (grown_set _ gb 3 (.int .i64 x.f1.f1)))
      generalize (((w6.setCell ⟨gb, 0, none⟩ (.int .i64 x.f0.f0)).setCell ⟨gb, 1, none⟩ (.int .i64 x.f0.f1)).setCell ⟨gb, 2, none⟩ (.int .i64 x.f1.f0)).setCell ⟨gb, 3, none⟩ (.int .i64 x.f1.f1) = w7 at HYgb HGgb ⊢
      have HBCgb : Aside0 (Below w.heap.size w w7) := ⟨HBBgb.out.grown HGgb.out HBBgb.out.size (fun j hj => by obtain rfl := Option.some.inj hj; exact HGEgb.out)⟩
      have qgb_0 := (blk_cell HYgb.out 0).trans rfl
      have qgb_1 := (blk_cell HYgb.out 1).trans rfl
      have qgb_2 := (blk_cell HYgb.out 2).trans rfl
      have qgb_3 := (blk_cell HYgb.out 3).trans rfl
      clear zgb_0 fgb_0 zgb_1 fgb_1 zgb_2 fgb_2 zgb_3 fgb_3 HXgb HBBgb
      have HR7 : Aside0 (Kd.R k45 45 w7 w.heap.size (fun p => p ≠ gb) (.slice AX o.length cx) o) := ⟨Kd.R_grown HR6.out HGgb.out (fun p hp e => hp (Option.some.inj e))⟩
      clear HR6 c0 c1 c2 c3 HGgb qgb_0 qgb_1 qgb_2 qgb_3
      go_wp2
      go_loopw [10, 45] (fun v10 v wr => ∃ j : Nat, v = .int .i64 (j : Int) ∧ j ≤ b.length ∧ Aside0 (Kd.R k45 45 wr w.heap.size (fun p => p ≠ gb) v10 (o ++ filL x (b.take j))) ∧ Aside0 (wr.heap[gb]? = some (.cells #[.int .i64 x.f0.f0, .int .i64 x.f0.f1, .int .i64 x.f1.f0, .int .i64 x.f1.f1] 45 (0, 0))) ∧ Aside0 (Below w.heap.size w wr)) (fun _ v _ => b.length - (intOf v).toNat)
      case atStart => exact ⟨0, rfl, Nat.zero_le _, ⟨by rw [List.take_zero]; unfold filL; simpa using HR7.out⟩, HYgb, HBCgb⟩
      case round =>
        clear HR7 HYgb HBCgb
        obtain ⟨j, rfl, hj, HR, HX, HB⟩ := hrel
        by_cases hlj : j < b.length
        · obtain ⟨y, hy⟩ : ∃ y, y = b[j] := ⟨_, rfl⟩
          have HNY : Aside0 (filL x (b.take (j + 1)) = filL x (b.take j) ++ (if meetB x.f1 y.f0 then [⟨x.f0, y.f1⟩] else [])) := ⟨by rw [hy]; exact filL_take hlj⟩
          obtain ⟨ad, ead, c0, c1, c2, c3⟩ := at_T45 (Kd.C_below HCB.out HB.out) (j : Int) (by omega) (by omega)
          rw [rd45 hlj, Int.toNat_natCast, ← hy] at c0 c1 c2 c3
          have hjI : (j : Int) < (b.length : Int) := by omega
          obtain ⟨q, hq⟩ : ∃ q, q = o ++ filL x (b.take j) := ⟨_, rfl⟩
          have HQE := Aside0.mk hq
          have HLQQ : Aside0 (q.length ≤ 4000) := ⟨by
            have h1 := filL_len x (b.take j)
            have h2 : (b.take j).length ≤ 60 := by rw [List.length_take]; omega
            have h3 := HLO.out
            rw [hq, List.length_append]; omega⟩
          rw [← hq] at HR
          obtain ⟨AY, cy, exl⟩ := Kd.R_slice HR.out
          subst exl
          subst ead
          obtain ⟨mb, hmb⟩ : ∃ mb, mb = meetB x.f1 y.f0 := ⟨_, rfl⟩
          have HMB := Aside0.mk hmb
          rw [← hmb] at HNY
          clear hy hq hmb
          go_upto_region 12 with (first | ((with_reducible refine gate_dst (N := 14) rfl ?_); refine box_event ?hg (N := 14) ?hd (cs := #[.int .i64 0, .int .i64 0, .int .i64 0, .int .i64 0]) (t := 45) ?hr ?_; (case hd => rfl); (case hg => rfl); (case hr => first | (go_simp; done) | (go_simp; rfl)); intro gc hg w8 hbox hb; have HXgc := Aside0.mk hbox; have HGEgc : Aside0 (w.heap.size ≤ gc) := ⟨by rw [hg]; exact HB.out.size⟩; have HBBgc : Aside0 (Below w.heap.size w w8) := ⟨below_step HB.out hb⟩; have zgc_0 : w8.cell? ⟨gc, 0, none⟩ = some (.int .i64 0) := (blk_cell hbox 0).trans rfl; have fgc_0 := blk_frozen hbox 0; have zgc_1 : w8.cell? ⟨gc, 1, none⟩ = some (.int .i64 0) := (blk_cell hbox 1).trans rfl; have fgc_1 := blk_frozen hbox 1; have zgc_2 : w8.cell? ⟨gc, 2, none⟩ = some (.int .i64 0) := (blk_cell hbox 2).trans rfl; have fgc_2 := blk_frozen hbox 2; have zgc_3 : w8.cell? ⟨gc, 3, none⟩ = some (.int .i64 0) := (blk_cell hbox 3).trans rfl; have fgc_3 := blk_frozen hbox 3; have HR8 : Aside0 (Kd.R k45 45 w8 w.heap.size (fun p => p ≠ gb ∧ p ≠ gc) (.slice AY q.length cy) q) := ⟨Kd.R_mono (Kd.R_below (Kd.R_bound HR.out) hb) (fun p hp => ⟨hp.1, by omega⟩)⟩; have HX8 : Aside0 (w8.heap[gb]? = some (.cells #[.int .i64 x.f0.f0, .int .i64 x.f0.f1, .int .i64 x.f1.f0, .int .i64 x.f1.f1] 45 (0, 0))) := ⟨(hb.block _ (blk_lt HX.out)).trans HX.out⟩; have HNE : Aside0 (gb ≠ gc) := ⟨by have := blk_lt HX.out; omega⟩; clear hg hbox hb HB HR HX))
          have HYgc := Aside0.mk (blk_put (blk_put (blk_put (blk_put HXgc.out 0 (.int .i64 y.f0.f0) rfl) 1 (.int .i64 y.f0.f1) rfl) 2 (.int .i64 y.f1.f0) rfl) 3 (.int .i64 y.f1.f1) rfl)
          have HGgc := Aside0.mk (World.grownBy.trans (World.grownBy.trans (World.grownBy.trans (grown_set w8 gc 0 (.int .i64 y.f0.f0)) (grown_set _ gc 1 (.int .i64 y.f0.f1))) (grown_set _ gc 2 (.int .i64 y.f1.f0))) (grown_set _ gc 3 (.int .i64 y.f1.f1)))
          generalize (((w8.setCell ⟨gc, 0, none⟩ (.int .i64 y.f0.f0)).setCell ⟨gc, 1, none⟩ (.int .i64 y.f0.f1)).setCell ⟨gc, 2, none⟩ (.int .i64 y.f1.f0)).setCell ⟨gc, 3, none⟩ (.int .i64 y.f1.f1) = w9 at HYgc HGgc ⊢
          have HBCgc : Aside0 (Below w.heap.size w w9) := ⟨HBBgc.out.grown HGgc.out HBBgc.out.size (fun j hj => by obtain rfl := Option.some.inj hj; exact HGEgc.out)⟩
          have qgc_0 := (blk_cell HYgc.out 0).trans rfl
          have qgc_1 := (blk_cell HYgc.out 1).trans rfl
          have qgc_2 := (blk_cell HYgc.out 2).trans rfl
          have qgc_3 := (blk_cell HYgc.out 3).trans rfl
          clear zgc_0 fgc_0 zgc_1 fgc_1 zgc_2 fgc_2 zgc_3 fgc_3 HXgc HBBgc
          have HR9 : Aside0 (Kd.R k45 45 w9 w.heap.size (fun p => p ≠ gb ∧ p ≠ gc) (.slice AY q.length cy) q) := ⟨Kd.R_grown HR8.out HGgc.out (fun p hp e => hp.2 (Option.some.inj e))⟩
          have HX9 : Aside0 (w9.heap[gb]? = some (.cells #[.int .i64 x.f0.f0, .int .i64 x.f0.f1, .int .i64 x.f1.f0, .int .i64 x.f1.f1] 45 (0, 0))) := ⟨(HGgc.out.block gb (blk_lt HX8.out) (fun e => HNE.out (Option.some.inj e))).trans HX8.out⟩
          have p2 := (blk_cell HX9.out 2).trans rfl
          have p3 := (blk_cell HX9.out 3).trans rfl
          clear HR8 HX8 HGgc c0 c1 c2 c3 qgc_2 qgc_3
          cases mb with
          | false =>
            go_wp2_with (go_at_call 72; refine (cluster_meet.calls x.f1.f0 x.f1.f1 y.f0.f0 y.f0.f1 _ _ (meet_is x.f1 y.f0)).mono ?_; rintro e w10 ⟨rfl, hb10⟩; rw [← HMB.out]; have HR10 := Aside0.mk (Kd.R_below HR9.out hb10); have HX10 : Aside0 (w10.heap[gb]? = some (.cells #[.int .i64 x.f0.f0, .int .i64 x.f0.f1, .int .i64 x.f1.f0, .int .i64 x.f1.f1] 45 (0, 0))) := ⟨(hb10.block _ (blk_lt HX9.out)).trans HX9.out⟩; have HB10 : Aside0 (Below w.heap.size w w10) := ⟨below_step HBCgc.out hb10⟩; clear hb10)
            exact ⟨⟨j + 1, by go_num, by omega, ⟨by rw [HNY.out, if_neg (by decide), List.append_nil, ← HQE.out]; exact Kd.R_mono HR10.out (fun p hp => hp.1)⟩, HX10, HB10⟩, by simp [intOf]; omega⟩
          | true =>
            go_upto_region 13 with (go_at_call 72; refine (cluster_meet.calls x.f1.f0 x.f1.f1 y.f0.f0 y.f0.f1 _ _ (meet_is x.f1 y.f0)).mono ?_; rintro e w10 ⟨rfl, hb10⟩; rw [← HMB.out]; have HR10 := Aside0.mk (Kd.R_below HR9.out hb10); have HX10 : Aside0 (w10.heap[gb]? = some (.cells #[.int .i64 x.f0.f0, .int .i64 x.f0.f1, .int .i64 x.f1.f0, .int .i64 x.f1.f1] 45 (0, 0))) := ⟨(hb10.block _ (blk_lt HX9.out)).trans HX9.out⟩; have HY10 : Aside0 (w10.heap[gc]? = some (.cells #[.int .i64 y.f0.f0, .int .i64 y.f0.f1, .int .i64 y.f1.f0, .int .i64 y.f1.f1] 45 (0, 0))) := ⟨(hb10.block _ (blk_lt HYgc.out)).trans HYgc.out⟩; have HB10 : Aside0 (Below w.heap.size w w10) := ⟨below_step HBCgc.out hb10⟩; have p0 := (blk_cell HX10.out 0).trans rfl; have p1 := (blk_cell HX10.out 1).trans rfl; have s2 := (blk_cell HY10.out 2).trans rfl; have s3 := (blk_cell HY10.out 3).trans rfl; clear hb10)
            clear p2 p3 qgc_0 qgc_1 HR9 HX9 HYgc HBCgc
            go_wp2_with ((with_reducible refine gate_builtin (b := .append) (xs := #[.tmp 54, .tmp 60]) rfl ?_); at_builtin; refine Kd.R_append k45 (w0 := w) w.heap.size rfl (.tmp 54) (.tmp 60) 40 45 (.agg #[(.int .i64 0), (.int .i64 0), (.int .i64 0), (.int .i64 0)]) 32 rfl Try.underlying40 info45 rfl (by decide) (by omega) _ q (⟨x.f0, y.f1⟩ : S45) [.int .i64 x.f0.f0, .int .i64 x.f0.f1, .int .i64 y.f1.f0, .int .i64 y.f1.f1] (fun p => p ≠ gb) (fun _ => False) rfl (by first | (go_simp; done) | (go_simp; rfl)) (k45_mkM _ _ _ (⟨x.f0, y.f1⟩ : S45)) (fun _ h => h.elim) (fun p hp => by have := blk_lt HX10.out; omega) (Kd.R_mono HR10.out (fun p hp => hp.1)) HB10.out HB10.out.size (by have := HLQQ.out; omega) ?_; intro v11 w11 hv hb hg hat; have HR11 := Aside0.mk hv; have HB11 := Aside0.mk hb; have HX11 : Aside0 (w11.heap[gb]? = some (.cells #[.int .i64 x.f0.f0, .int .i64 x.f0.f1, .int .i64 x.f1.f0, .int .i64 x.f1.f1] 45 (0, 0))) := ⟨(hg.block gb (blk_lt HX10.out) (fun e => (HR10.out.1 gb e.symm).1 rfl)).trans HX10.out⟩; clear hv hb hg hat)
            exact ⟨⟨j + 1, by go_num, by omega, ⟨by rw [HNY.out, if_pos (by first | exact trivial | exact rfl), ← List.append_assoc, ← HQE.out]; exact HR11.out⟩, HX11, HB11⟩, by simp [intOf]; omega⟩
        · obtain rfl : j = b.length := by omega
          rw [List.take_length] at HR
          clear hlj
          go_wp2
          exact ⟨⟨k + 1, by go_num, by omega, ⟨by rw [HNX.out]; exact Kd.R_mono HR.out (fun _ _ => trivial)⟩, HB⟩, by simp [intOf]; omega⟩
    · obtain rfl : k = a.length := by omega
      rw [List.take_length] at HR
      clear hlt
      have HS := Aside0.mk (SLk.of_R HR.out)
      go_wp2_with (go_at_call 32; refine (HFIN.out _ _ HS.out HB.out).mono ?_; rintro e w12 ⟨u, r, rfl, hR, hb12⟩; have HRR := Aside0.mk hR; have HB12 : Aside0 (Below w.heap.size w w12) := ⟨below_step HB.out hb12⟩; clear hR hb12)
      refine bodyPost_ret (results_tmp2 rfl _ _ _) rfl ?_
      exact ⟨_, _, rfl, HRR.out, HB12.out⟩
end Go.Proofs.Ytohhobcipfmkbaa.CFin
