/- ClusterWhole answers true: the law's own function, walked over the contracts of cluster.Finest and cluster.Check. -/
import Derived.Test.YtohhobcipfmkbaaCAwk
import Derived.Test.YtohhobcipfmkbaaUWhole
import Derived.Test.YtohhobcipfmkbaaCStab2
namespace Go.Proofs.Ytohhobcipfmkbaa
open Go.RowKit Go.Maps Go.Proofs.YtohhobcipfmkbaaW.PrintWords Go.Proofs.YtohhobcipfmkbaaW.PrintMore Go.Proofs.YtohhobcipfmkbaaW.PrintLast Go.Proofs.Ytohhobcipfmkbaa.U Go.Proofs.Ytohhobcipfmkbaa.PClusterFinest Go.Proofs.Ytohhobcipfmkbaa.UFinest Go.Proofs.Ytohhobcipfmkbaa.UFinEv Go.Proofs.Ytohhobcipfmkbaa.CFin Go.Proofs.Ytohhobcipfmkbaa.UWhole
set_option linter.unusedVariables false
set_option linter.unusedSimpArgs false
/-- one round of the inner loop -/
theorem within_cases (c x : S45) : (¬ c.f0.f0 ≤ x.f0.f0 ∧ within c x = false) ∨ (c.f0.f0 ≤ x.f0.f0 ∧ ¬ x.f0.f1 ≤ c.f0.f1 ∧ within c x = false) ∨ (c.f0.f0 ≤ x.f0.f0 ∧ x.f0.f1 ≤ c.f0.f1 ∧ ¬ c.f1.f0 ≤ x.f1.f0 ∧ within c x = false) ∨ (c.f0.f0 ≤ x.f0.f0 ∧ x.f0.f1 ≤ c.f0.f1 ∧ c.f1.f0 ≤ x.f1.f0 ∧ ¬ x.f1.f1 ≤ c.f1.f1 ∧ within c x = false) ∨ (c.f0.f0 ≤ x.f0.f0 ∧ x.f0.f1 ≤ c.f0.f1 ∧ c.f1.f0 ≤ x.f1.f0 ∧ x.f1.f1 ≤ c.f1.f1 ∧ within c x = true) := by
  unfold within
  by_cases h1 : c.f0.f0 ≤ x.f0.f0
  · by_cases h2 : x.f0.f1 ≤ c.f0.f1
    · by_cases h3 : c.f1.f0 ≤ x.f1.f0
      · by_cases h4 : x.f1.f1 ≤ c.f1.f1
        · exact .inr (.inr (.inr (.inr ⟨h1, h2, h3, h4, by simp [h1, h2, h3, h4]⟩)))
        · exact .inr (.inr (.inr (.inl ⟨h1, h2, h3, h4, by simp [h1, h2, h3, h4]⟩)))
      · exact .inr (.inr (.inl ⟨h1, h2, h3, by simp [h1, h2, h3]⟩))
    · exact .inr (.inl ⟨h1, h2, by simp [h1, h2]⟩)
  · exact .inl ⟨h1, by simp [h1]⟩
set_option maxRecDepth 100000 in
set_option maxHeartbeats 4000000 in
theorem clusterWholeWalk (n m : Int) (l : List S45) (w : World) (_ : (Lit.int .i64 n).wf = true) (_ : (Lit.int .i64 m).wf = true) (A : Option Addr) (c : Nat) (hr : Kd.C k45 w A l.length l) (hc : l.length ≤ c) :
    Calls Try.prog 7 #[.int .i64 n, .int .i64 m, .slice A l.length c] w fun e w' => e = .returned (.bool true) ∧ Below w.heap.size w w' := by
  have H := Aside0.mk (SLk.mk hr hc)
  have HC := Aside0.mk hr
  clear hr hc
  obtain ⟨b, hb⟩ : ∃ b, fewB l 0 = b := ⟨_, rfl⟩
  have HBV := Aside0.mk hb
  clear hb
  go_enter Try.func7, Try.ntmps7
  cases b with
  | false =>
    go_wp2_with (first | (go_at_call 31; refine (few_c H.out).mono ?_; rintro e w1 ⟨rfl, hb1⟩; rw [HBV.out]; have HB1 := Aside0.mk hb1; have H1 := Aside0.mk (SLk.below H.out hb1); clear hb1) | (go_at_call 28; refine awake_c.mono ?_; rintro e w2 ⟨rfl, hb2⟩; have HB2 := Aside0.mk hb2; clear hb2))
    go_ret
    exact ⟨rfl, below_step HB1.out HB2.out⟩
  | true =>
    have HLEN : Aside0 (l.length ≤ 30) := ⟨by have := few_len l 0 HBV.out (by omega); omega⟩
    by_cases gn : n > 60
    · go_wp2_with (first | (go_at_call 31; refine (few_c H.out).mono ?_; rintro e w1 ⟨rfl, hb1⟩; rw [HBV.out]; have HB1 := Aside0.mk hb1; have H1 := Aside0.mk (SLk.below H.out hb1); clear hb1) | (go_at_call 28; refine awake_c.mono ?_; rintro e w2 ⟨rfl, hb2⟩; have HB2 := Aside0.mk hb2; clear hb2))
      go_ret
      exact ⟨rfl, below_step HB1.out HB2.out⟩
    by_cases gm : m > 60
    · go_wp2_with (first | (go_at_call 31; refine (few_c H.out).mono ?_; rintro e w1 ⟨rfl, hb1⟩; rw [HBV.out]; have HB1 := Aside0.mk hb1; have H1 := Aside0.mk (SLk.below H.out hb1); clear hb1) | (go_at_call 28; refine awake_c.mono ?_; rintro e w2 ⟨rfl, hb2⟩; have HB2 := Aside0.mk hb2; clear hb2))
      go_ret
      exact ⟨rfl, below_step HB1.out HB2.out⟩
    by_cases hwr : wrongR n m l ≠ 0
    · have HWR := Aside0.mk hwr
      obtain ⟨wr, hwe⟩ : ∃ wr, wr = wrongR n m l := ⟨_, rfl⟩
      have HWE := Aside0.mk hwe
      have hw0 : ¬ wr = 0 := by rw [hwe]; exact hwr
      clear hwr hwe
      go_wp2_with (first | (go_at_call 31; refine (few_c H.out).mono ?_; rintro e w1 ⟨rfl, hb1⟩; rw [HBV.out]; have HB1 := Aside0.mk hb1; have H1 := Aside0.mk (SLk.below H.out hb1); clear hb1) | (go_at_call 32; refine (finest_bad n m H1.out (by have := HLEN.out; omega) (.inl HWR.out)).mono ?_; rintro e w3 ⟨rfl, hb3⟩; rw [← HWE.out]; have HB3 : Aside0 (Below w.heap.size w w3) := ⟨below_step HB1.out hb3⟩; clear hb3) | (go_at_call 28; refine awake_c.mono ?_; rintro e w2 ⟨rfl, hb2⟩; have HB2 := Aside0.mk hb2; clear hb2))
      go_ret
      exact ⟨rfl, below_step HB3.out HB2.out⟩
    have hw : wrongR n m l = 0 := Decidable.byContradiction hwr
    clear hwr
    by_cases hn0 : n = 0
    · subst hn0
      have hno : l = [] ∧ m = 0 := by
        unfold wrongR at hw
        split at hw
        · cases hw
        · split at hw
          · rename_i h1 h2
            refine ⟨?_, ?_⟩
            · cases l with
              | nil => rfl
              | cons x r =>
                exfalso
                have := List.all_eq_true.1 h2 x List.mem_cons_self
                unfold okB fitB at this
                simp only [Bool.and_eq_true, decide_eq_true_eq] at this
                omega
            · unfold wrongIn at hw
              rw [if_neg (by omega)] at hw
              split at hw
              · cases hw
              · omega
          · cases hw
      obtain ⟨rfl, rfl⟩ := hno
      have HW := Aside0.mk hw
      clear hw
      go_wp2_with (first | (go_at_call 31; refine (few_c H.out).mono ?_; rintro e w1 ⟨rfl, hb1⟩; rw [HBV.out]; have HB1 := Aside0.mk hb1; have H1 := Aside0.mk (SLk.below H.out hb1); clear hb1) | (go_at_call 32; refine (finest_bad 0 0 H1.out (by decide) (.inr rfl)).mono ?_; rintro e w3 ⟨rfl, hb3⟩; rw [HW.out]; have HB3 : Aside0 (Below w.heap.size w w3) := ⟨below_step HB1.out hb3⟩; clear hb3) | (go_at_call 29; refine (CSort.check_c 0 0 (nil_slk _) (by decide)).mono ?_; rintro e w4 ⟨d, hp, hs, rfl, hb4⟩; obtain rfl := List.perm_nil.1 hp; have HB4 : Aside0 (Below w.heap.size w w4) := ⟨below_step HB3.out hb4⟩; rw [show CSort.checkB 0 0 [] [] = true by decide]; clear hp hs hb4))
      refine wp_loop_rounds 1 ?_
      rw [rounds_succ]
      go_wp2_with (go_at_call 28; refine awake_c.mono ?_; rintro e w2 ⟨rfl, hb2⟩; have HB2 := Aside0.mk hb2; clear hb2)
      go_ret
      exact ⟨rfl, below_step HB4.out HB2.out⟩
    have hrange : 0 ≤ n ∧ 0 ≤ m ∧ (n > 0 → m ≠ 0) := by
      unfold wrongR at hw
      split at hw
      · cases hw
      · rename_i hx
        split at hw
        · unfold wrongIn at hw
          split at hw
          · cases hw
          · rename_i hy
            refine ⟨by omega, by omega, fun h h2 => hy ⟨h2, h⟩⟩
        · cases hw
    obtain ⟨r1, r2, r5⟩ := hrange
    obtain ⟨N, rfl⟩ : ∃ N : Nat, n = (N : Int) := ⟨n.toNat, by omega⟩
    obtain ⟨M, rfl⟩ : ∃ M : Nat, m = (M : Int) := ⟨m.toNat, by omega⟩
    have hN : 0 < N := by omega
    have hM : 0 < M := by have := r5 (by omega); omega
    have HN := Aside0.mk hN
    have HM := Aside0.mk hM
    have HW := Aside0.mk hw
    have HNM : Aside0 (N ≤ 60 ∧ M ≤ 60) := ⟨by omega, by omega⟩
    clear hw hn0 r1 r2 r5 hN hM
    go_upto_region 8 with (first | (go_at_call 31; refine (few_c H.out).mono ?_; rintro e w1 ⟨rfl, hb1⟩; rw [HBV.out]; have HB1 := Aside0.mk hb1; have H1 := Aside0.mk (SLk.below H.out hb1); clear hb1) | (go_at_call 32; refine (finest_c N M H1.out (by have := HLEN.out; omega) HN.out HM.out (by have := HNM.out; omega) HW.out).mono ?_; rintro e w3 ⟨u, L, rfl, hf, hR, hb3⟩; have HF := Aside0.mk hf; have HU := Aside0.mk (SLk.of_R hR); have HB3 : Aside0 (Below w.heap.size w w3) := ⟨below_step HB1.out hb3⟩; clear hf hR hb3) | (go_at_call 29; refine (CSort.check_c N M HU.out (by have := cluS_len N M L N; have := HNM.out; omega)).mono ?_; rintro e w4 ⟨d, hp, hs, rfl, hb4⟩; rw [check_true (mapOk HF.out HN.out HM.out HW.out) d hp hs]; have HB4 : Aside0 (Below w.heap.size w w4) := ⟨below_step HB3.out hb4⟩; have HU4 := Aside0.mk (SLk.below HU.out hb4); clear hp hs hb4))
    obtain ⟨q, hq⟩ : ∃ q, q = cluS N M L N := ⟨_, rfl⟩
    have HQ : Aside0 (∀ x ∈ l, q.any (fun c => within c x) = true) := ⟨fun x hx => by rw [hq]; exact link_within HF.out HN.out HM.out HW.out x hx⟩
    have HQL : Aside0 (q.length ≤ 60) := ⟨by rw [hq]; have := cluS_len N M L N; have := HNM.out; omega⟩
    rw [← hq] at HU4
    clear hq
    have hu := HU4.out
    obtain ⟨QA, qc, rfl, hqc, hqC⟩ := hu
    have HQC := Aside0.mk hqC
    have HUB : Aside0 (SLk k45 w4 (.slice QA q.length qc) q) := HU4
    have HLC : Aside0 (Kd.C k45 w4 A l.length l) := ⟨Kd.C_below HC.out HB4.out⟩
    have hll : l.length ≤ 30 := HLEN.out
    have hql : q.length ≤ 60 := HQL.out
    clear hqc hqC HU4
    go_wp2
    go_loopw [48] (fun v wr => ∃ k : Nat, v = .int .i64 (k : Int) ∧ k ≤ l.length ∧ Aside0 (Below w.heap.size w wr) ∧ Aside0 (Below w4.heap.size w4 wr)) (fun v _ => l.length - (intOf v).toNat)
    case atStart => exact ⟨0, rfl, Nat.zero_le _, HB4, ⟨Below.refl _ _⟩⟩
    case round =>
      obtain ⟨wo, ewo⟩ : ∃ wo, wo = wr := ⟨_, rfl⟩
      subst ewo
      obtain ⟨k, rfl, hk, HB, HB4'⟩ := hrel
      by_cases hlt : k < l.length
      · obtain ⟨x, hx⟩ : ∃ x, x = l[k] := ⟨_, rfl⟩
        have HXQ : Aside0 (q.any (fun c => within c x) = true) := ⟨HQ.out x (by rw [hx]; exact List.getElem_mem hlt)⟩
        obtain ⟨ad, ead, c0, c1, c2, c3⟩ := at_T45 (Kd.C_below HLC.out HB4'.out) (k : Int) (by omega) (by omega)
        rw [rd45 hlt, Int.toNat_natCast, ← hx] at c0 c1 c2 c3
        have hkI : (k : Int) < (l.length : Int) := by omega
        subst ead
        clear hx
        go_upto_region 11 with (first | ((with_reducible refine gate_dst (N := 10) rfl ?_); refine box_event ?hg (N := 10) ?hd (cs := #[.int .i64 0, .int .i64 0, .int .i64 0, .int .i64 0]) (t := 45) ?hr ?_; (case hd => rfl); (case hg => rfl); (case hr => first | (go_simp; done) | (go_simp; rfl)); intro gb hg w6 hbox hb; have HXgb := Aside0.mk hbox; have HGEgb : Aside0 (w.heap.size ≤ gb) := ⟨by rw [hg]; exact HB.out.size⟩; have HBBgb : Aside0 (Below w.heap.size w w6) := ⟨below_step HB.out hb⟩; have zgb_0 : w6.cell? ⟨gb, 0, none⟩ = some (.int .i64 0) := (blk_cell hbox 0).trans rfl; have fgb_0 := blk_frozen hbox 0; have zgb_1 : w6.cell? ⟨gb, 1, none⟩ = some (.int .i64 0) := (blk_cell hbox 1).trans rfl; have fgb_1 := blk_frozen hbox 1; have zgb_2 : w6.cell? ⟨gb, 2, none⟩ = some (.int .i64 0) := (blk_cell hbox 2).trans rfl; have fgb_2 := blk_frozen hbox 2; have zgb_3 : w6.cell? ⟨gb, 3, none⟩ = some (.int .i64 0) := (blk_cell hbox 3).trans rfl; have fgb_3 := blk_frozen hbox 3; have HB46 : Aside0 (Below w4.heap.size w4 w6) := ⟨below_step HB4'.out hb⟩; have HGF : Aside0 (w4.heap.size ≤ gb) := ⟨by rw [hg]; exact HB4'.out.size⟩; clear hg hbox hb HB HB4'))
        have HYgb := Aside0.mk (blk_put (blk_put (blk_put (blk_put HXgb.out 0 (.int .i64 x.f0.f0) rfl) 1 (.int .i64 x.f0.f1) rfl) 2 (.int .i64 x.f1.f0) rfl) 3 (.int .i64 x.f1.f1) rfl)
        have HGgb := Aside0.mk (World.grownBy.trans (World.grownBy.trans (World.grownBy.trans (grown_set w6 gb 0 (.int .i64 x.f0.f0)) (grown_set _ gb 1 (.int .i64 x.f0.f1))) (grown_set _ gb 2 (.int .i64 x.f1.f0))) (grown_set _ gb 3 (.int .i64 x.f1.f1)))
        generalize (((w6.setCell ⟨gb, 0, none⟩ (.int .i64 x.f0.f0)).setCell ⟨gb, 1, none⟩ (.int .i64 x.f0.f1)).setCell ⟨gb, 2, none⟩ (.int .i64 x.f1.f0)).setCell ⟨gb, 3, none⟩ (.int .i64 x.f1.f1) = w7 at HYgb HGgb ⊢
        have HBCgb : Aside0 (Below w.heap.size w w7) := ⟨HBBgb.out.grown HGgb.out HBBgb.out.size (fun j hj => by obtain rfl := Option.some.inj hj; exact HGEgb.out)⟩
        have qgb_0 := (blk_cell HYgb.out 0).trans rfl
        have qgb_1 := (blk_cell HYgb.out 1).trans rfl
        have qgb_2 := (blk_cell HYgb.out 2).trans rfl
        have qgb_3 := (blk_cell HYgb.out 3).trans rfl
        clear zgb_0 fgb_0 zgb_1 fgb_1 zgb_2 fgb_2 zgb_3 fgb_3 HXgb HBBgb
        have HB47 : Aside0 (Below w4.heap.size w4 w7) := ⟨HB46.out.grown HGgb.out HB46.out.size (fun j hj => by obtain rfl := Option.some.inj hj; exact HGF.out)⟩
        clear HB46 c0 c1 c2 c3 HGgb qgb_0 qgb_1 qgb_2 qgb_3
        go_wp2
        go_loopw [11, 54] (fun v11 v wr => ∃ j : Nat, v = .int .i64 (j : Int) ∧ j ≤ q.length ∧ v11 = .bool ((q.take j).any (fun c => within c x)) ∧ Aside0 (Below w.heap.size w wr) ∧ Aside0 (Below w7.heap.size w7 wr)) (fun _ v _ => q.length - (intOf v).toNat)
        case atStart => exact ⟨0, rfl, Nat.zero_le _, rfl, HBCgb, ⟨Below.refl _ _⟩⟩
        case round =>
          obtain ⟨j, rfl, hj, rfl, HB, HB7⟩ := hrel
          by_cases hlj : j < q.length
          · obtain ⟨y, hy⟩ : ∃ y, y = q[j] := ⟨_, rfl⟩
            obtain ⟨ad, ead, c0, c1, c2, c3⟩ := at_T45 (Kd.C_below HQC.out (below_step HB47.out HB7.out)) (j : Int) (by omega) (by omega)
            rw [rd45 hlj, Int.toNat_natCast, ← hy] at c0 c1 c2 c3
            have hjI : (j : Int) < (q.length : Int) := by omega
            obtain ⟨b, hb⟩ : ∃ b, (q.take j).any (fun c => within c x) = b := ⟨_, rfl⟩
            have HNX : Aside0 ((q.take (j + 1)).any (fun c => within c x) = (b || within y x)) := ⟨by
              rw [List.take_succ_eq_append_getElem hlj, List.any_append, hb, ← hy]; simp⟩
            have HXb : Aside0 (wr.heap[gb]? = some (.cells #[.int .i64 x.f0.f0, .int .i64 x.f0.f1, .int .i64 x.f1.f0, .int .i64 x.f1.f1] 45 (0, 0))) := ⟨(HB7.out.block _ (blk_lt HYgb.out)).trans HYgb.out⟩
            rw [hb]
            have HBJ := Aside0.mk hb
            subst ead
            clear hy hb
            go_upto_region 15 with (first | ((with_reducible refine gate_dst (N := 13) rfl ?_); refine box_event ?hg (N := 13) ?hd (cs := #[.int .i64 0, .int .i64 0, .int .i64 0, .int .i64 0]) (t := 45) ?hr ?_; (case hd => rfl); (case hg => rfl); (case hr => first | (go_simp; done) | (go_simp; rfl)); intro gc hg w8 hbox hb; have HXgc := Aside0.mk hbox; have HGEgc : Aside0 (w.heap.size ≤ gc) := ⟨by rw [hg]; exact HB.out.size⟩; have HBBgc : Aside0 (Below w.heap.size w w8) := ⟨below_step HB.out hb⟩; have zgc_0 : w8.cell? ⟨gc, 0, none⟩ = some (.int .i64 0) := (blk_cell hbox 0).trans rfl; have fgc_0 := blk_frozen hbox 0; have zgc_1 : w8.cell? ⟨gc, 1, none⟩ = some (.int .i64 0) := (blk_cell hbox 1).trans rfl; have fgc_1 := blk_frozen hbox 1; have zgc_2 : w8.cell? ⟨gc, 2, none⟩ = some (.int .i64 0) := (blk_cell hbox 2).trans rfl; have fgc_2 := blk_frozen hbox 2; have zgc_3 : w8.cell? ⟨gc, 3, none⟩ = some (.int .i64 0) := (blk_cell hbox 3).trans rfl; have fgc_3 := blk_frozen hbox 3; have HB78 : Aside0 (Below w7.heap.size w7 w8) := ⟨below_step HB7.out hb⟩; have HXc : Aside0 (w8.heap[gb]? = some (.cells #[.int .i64 x.f0.f0, .int .i64 x.f0.f1, .int .i64 x.f1.f0, .int .i64 x.f1.f1] 45 (0, 0))) := ⟨(hb.block _ (blk_lt HXb.out)).trans HXb.out⟩; have HGD : Aside0 (w7.heap.size ≤ gc ∧ gb ≠ gc) := ⟨by have := HB7.out.size; omega, by have := blk_lt HXb.out; omega⟩; clear hg hbox hb HB HB7 HXb))
            have HYgc := Aside0.mk (blk_put (blk_put (blk_put (blk_put HXgc.out 0 (.int .i64 y.f0.f0) rfl) 1 (.int .i64 y.f0.f1) rfl) 2 (.int .i64 y.f1.f0) rfl) 3 (.int .i64 y.f1.f1) rfl)
            have HGgc := Aside0.mk (World.grownBy.trans (World.grownBy.trans (World.grownBy.trans (grown_set w8 gc 0 (.int .i64 y.f0.f0)) (grown_set _ gc 1 (.int .i64 y.f0.f1))) (grown_set _ gc 2 (.int .i64 y.f1.f0))) (grown_set _ gc 3 (.int .i64 y.f1.f1)))
            generalize (((w8.setCell ⟨gc, 0, none⟩ (.int .i64 y.f0.f0)).setCell ⟨gc, 1, none⟩ (.int .i64 y.f0.f1)).setCell ⟨gc, 2, none⟩ (.int .i64 y.f1.f0)).setCell ⟨gc, 3, none⟩ (.int .i64 y.f1.f1) = w9 at HYgc HGgc ⊢
            have HBCgc : Aside0 (Below w.heap.size w w9) := ⟨HBBgc.out.grown HGgc.out HBBgc.out.size (fun j hj => by obtain rfl := Option.some.inj hj; exact HGEgc.out)⟩
            have qgc_0 := (blk_cell HYgc.out 0).trans rfl
            have qgc_1 := (blk_cell HYgc.out 1).trans rfl
            have qgc_2 := (blk_cell HYgc.out 2).trans rfl
            have qgc_3 := (blk_cell HYgc.out 3).trans rfl
            clear zgc_0 fgc_0 zgc_1 fgc_1 zgc_2 fgc_2 zgc_3 fgc_3 HXgc HBBgc
            have HB79 : Aside0 (Below w7.heap.size w7 w9) := ⟨HB78.out.grown HGgc.out HB78.out.size (fun j hj => by obtain rfl := Option.some.inj hj; exact HGD.out.1)⟩
            have HXd : Aside0 (w9.heap[gb]? = some (.cells #[.int .i64 x.f0.f0, .int .i64 x.f0.f1, .int .i64 x.f1.f0, .int .i64 x.f1.f1] 45 (0, 0))) := ⟨(HGgc.out.block gb (blk_lt HXc.out) (fun e => HGD.out.2 (Option.some.inj e))).trans HXc.out⟩
            have p0 := (blk_cell HXd.out 0).trans rfl
            have p1 := (blk_cell HXd.out 1).trans rfl
            have p2 := (blk_cell HXd.out 2).trans rfl
            have p3 := (blk_cell HXd.out 3).trans rfl
            clear HB78 HXc c0 c1 c2 c3
            cases b with
            | true =>
              go_wp2
              exact ⟨⟨j + 1, by go_num, by omega, by rw [HNX.out]; rfl, HBCgc, HB79⟩, by simp [intOf]; omega⟩
            | false =>
              rcases within_cases y x with ⟨h1, hw⟩ | ⟨h1, h2, hw⟩ | ⟨h1, h2, h3, hw⟩ | ⟨h1, h2, h3, h4, hw⟩ | ⟨h1, h2, h3, h4, hw⟩
              · have HWI := Aside0.mk hw
                clear hw
                go_wp2
                exact ⟨⟨j + 1, by go_num, by omega, by rw [HNX.out, HWI.out]; rfl, HBCgc, HB79⟩, by simp [intOf]; omega⟩
              · have HWI := Aside0.mk hw
                clear hw
                go_wp2
                exact ⟨⟨j + 1, by go_num, by omega, by rw [HNX.out, HWI.out]; rfl, HBCgc, HB79⟩, by simp [intOf]; omega⟩
              · have HWI := Aside0.mk hw
                clear hw
                go_wp2
                exact ⟨⟨j + 1, by go_num, by omega, by rw [HNX.out, HWI.out]; rfl, HBCgc, HB79⟩, by simp [intOf]; omega⟩
              · have HWI := Aside0.mk hw
                clear hw
                go_wp2
                exact ⟨⟨j + 1, by go_num, by omega, by rw [HNX.out, HWI.out]; rfl, HBCgc, HB79⟩, by simp [intOf]; omega⟩
              · have HWI := Aside0.mk hw
                clear hw
                go_wp2
                exact ⟨⟨j + 1, by go_num, by omega, by rw [HNX.out, HWI.out]; rfl, HBCgc, HB79⟩, by simp [intOf]; omega⟩
          · obtain rfl : j = q.length := by omega
            rw [List.take_length, HXQ.out]
            clear hlj
            go_wp2
            exact ⟨⟨k + 1, by go_num, by omega, HB, ⟨below_step HB47.out HB7.out⟩⟩, by simp [intOf]; omega⟩
      · obtain rfl : k = l.length := by omega
        clear hlt
        go_wp2_with (go_at_call 28; refine awake_c.mono ?_; rintro e w2 ⟨rfl, hb2⟩; have HB2 := Aside0.mk hb2; clear hb2)
        go_ret
        exact ⟨rfl, below_step HB.out HB2.out⟩
end Go.Proofs.Ytohhobcipfmkbaa
