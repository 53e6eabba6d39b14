/- Texts of this claim, cut to what it needs. -/
import Derived.Test.YtemhccjjcioodaaGreatKUGroups
import Derived.Test.YtemhccjjcioodaaGreatKKClu
import Derived.Test.YtemhccjjcioodaaGreatKUBase
set_option linter.unusedSimpArgs false
set_option linter.unusedVariables false
section
namespace Go.Proofs.YtemhccjjcioodaaGreat.KStretch
open Go.RowKit Go.Proofs.YtemhccjjcioodaaGreatW.PrintWords Go.Proofs.YtemhccjjcioodaaGreatW.PrintMore Go.Proofs.YtemhccjjcioodaaGreatW.PrintLast Go.Proofs.YtemhccjjcioodaaGreat.U Go.Proofs.YtemhccjjcioodaaGreat.PClusterFinest Go.Proofs.YtemhccjjcioodaaGreat.KPlace Go.Proofs.YtemhccjjcioodaaGreat.UKash Go.Proofs.YtemhccjjcioodaaGreat.KBehind Go.Proofs.YtemhccjjcioodaaGreat.UStretch
open Go.Proofs.YtemhccjjcioodaaGreat.CProps (PropsAt)
open Go.Proofs.YtemhccjjcioodaaGreat.Cel (CellsAt Eff CellsAt.below CellsAt.mono linksOf)
open Go.Proofs.YtemhccjjcioodaaGreat.UGroups (groups)
open Go.Proofs.YtemhccjjcioodaaGreat.UFinEv (lkOf)
open Go.Proofs.YtemhccjjcioodaaGreat.UFinest (FinOk)
open Go.Proofs.YtemhccjjcioodaaGreat.CFin (cluS)
def ints (l : List Nat) : List Int := l.map fun i : Nat => (i : Int)
theorem ints_len (l : List Nat) : (ints l).length = l.length := by simp [ints]
theorem ints_zero (n : Nat) : ints (List.replicate n 0) = List.replicate n (0 : Int) := by simp [ints]
theorem ints_set (l : List Nat) (i v : Nat) : (ints l).set i (v : Int) = ints (l.set i v) := by simp [ints, List.map_set]
theorem rd_ints {M : List Nat} {b y : Nat} (h : y = M.getD b 0) : rdOf (0 : Int) (ints M) (b : Int) = (y : Int) := by
 unfold rdOf ints
 rw [Int.toNat_natCast, h, List.getD_eq_getElem?_getD, List.getD_eq_getElem?_getD, List.getElem?_map]
 cases M[b]? <;> rfl
def Lto (xs : List Int) (M : List Nat) (j : Nat) : List (List Int) := (rowsOf xs M).take j ++ List.replicate (xs.length - j) []
theorem Lto_zero (xs : List Int) (M : List Nat) : Lto xs M 0 = List.replicate xs.length [] := by unfold Lto; rw [List.take_zero, List.nil_append, Nat.sub_zero]
theorem Lto_len (xs : List Int) (M : List Nat) {j : Nat} (h : j ≤ xs.length) : (Lto xs M j).length = xs.length := by
 unfold Lto
 rw [List.length_append, List.length_take, rowsOf_len, List.length_replicate]
 omega
theorem Lto_end (xs : List Int) (M : List Nat) : Lto xs M xs.length = rowsOf xs M := by
 unfold Lto
 rw [Nat.sub_self, List.replicate_zero, List.append_nil, List.take_of_length_le (by rw [rowsOf_len]; exact Nat.le_refl _)]
theorem Lto_set (xs : List Int) (M : List Nat) {j : Nat} (h : j < xs.length) : (Lto xs M j).set j (xs[j] :: List.replicate (M.getD j 0) 1600) = Lto xs M (j + 1) := by
 have hl : ((rowsOf xs M).take j).length = j := by rw [List.length_take, rowsOf_len]; omega
 have hr : (rowsOf xs M)[j]'(by rw [rowsOf_len]; exact h) = xs[j] :: List.replicate (M.getD j 0) 1600 := by
  simp [rowsOf, List.getD_eq_getElem?_getD, h]
 unfold Lto
 obtain ⟨k, hk⟩ : ∃ k, xs.length - j = k + 1 := ⟨xs.length - j - 1, by omega⟩
 rw [List.set_append_right _ _ (by omega), hl, Nat.sub_self, hk, List.replicate_succ, List.set_cons_zero, List.take_succ_eq_append_getElem (by rw [rowsOf_len]; exact h), hr, List.append_assoc, show xs.length - (j + 1) = k by omega]
 rfl
noncomputable def strL (xs : List Int) (n : Nat) : List (List Int) := rowsOf xs (manyTo (xs.map CJoins.jn) xs.length n (placesN xs (xs.map CJoins.jn) xs.length) (placesN xs (xs.map CJoins.jn) xs.length).length)
theorem R_one (w : World) (x : Int) : Kd.R (Kd.int .i64) 3 (w.alloc (.cells #[.int .i64 x] 3 (0, 0))) w.heap.size (fun k => k = w.heap.size) (.slice (some ⟨w.heap.size, 0, none⟩) 1 1) [x] := by
 refine ⟨fun k hk => by simp [Value.ownBlock] at hk; exact hk.symm, [.int .i64 x], ⟨rfl, .inr ⟨w.heap.size, 1, #[.int .i64 x], rfl, Nat.le_refl _, blk_new _ _, Nat.le_refl _, by decide, rfl, rfl⟩⟩, ?_⟩
 exact Reps.one (show Kd.M (Kd.int .i64) _ _ _ x [.int .i64 x] from rfl) (Reps.none _ _)
theorem placesN_le {xs ts : List Int} {ps : List Nat} (h : ps = placesN xs ts xs.length) : ps.length ≤ 6 * xs.length := by
 rw [h]
 unfold placesN
 rw [List.length_flatMap]
 have hb : ∀ k : Nat, (byRank xs ts xs.length ((k : Int) + 1)).length ≤ xs.length := fun k => by
  unfold byRank
  exact Nat.le_trans (List.length_filter_le _ _) (by simp)
 have h0 := hb 0; have h1 := hb 1; have h2 := hb 2; have h3 := hb 3; have h4 := hb 4; have h5 := hb 5
 simp only [List.range, List.range.loop, List.map_cons, List.map_nil, List.sum_cons, List.sum_nil]
 omega
set_option maxRecDepth 100000 in
set_option maxHeartbeats 16000000 in
theorem stretch_c {w : World} {g : Nat} (h : PropsAt w g) {A : Option Addr} {c : Nat} {xs : List Int} (hx : SL w (.slice A xs.length c) xs) (hm : xs.length ≤ 60) (n : Nat) (hn : 0 < n) (hn6 : n ≤ 60) :
 Calls Tryz.prog 15 #[.pointer (some ⟨g, 0, none⟩), .slice A xs.length c, .int .i64 n] w fun e w' => Below w.heap.size w w' ∧
  ((placesN xs (xs.map CJoins.jn) xs.length = [] ∧ e = .returned (.tuple #[.slice none 0 0, .slice none 0 0, .int .i64 9])) ∨
   (0 < (placesN xs (xs.map CJoins.jn) xs.length).length ∧ ∃ u v F, e = .returned (.tuple #[u, v, .int .i64 0]) ∧ SL w' u (strL xs n).flatten ∧ FinOk (strL xs n).length (strL xs n).flatten.length ((linksOf (strL xs n) (groups (strL xs n).length [])).1.map lkOf) F ∧ SLk k45 w' v (cluS (strL xs n).length (strL xs n).flatten.length F (strL xs n).length))) := by
 have H := Aside0.mk h
 have HX := Aside0.mk hx
 have HM := Aside0.mk hm
 have HN := Aside0.mk hn
 have HN6 := Aside0.mk hn6
 obtain ⟨ts, hts⟩ : ∃ ts, ts = xs.map CJoins.jn := ⟨_, rfl⟩
 rw [← hts]
 have HTL : Aside0 (ts.length = xs.length) := ⟨by rw [hts, List.length_map]⟩
 have HTS := Aside0.mk hts
 obtain ⟨ps, hps⟩ : ∃ ps, ps = placesN xs ts xs.length := ⟨_, rfl⟩
 rw [← hps]
 have HPS := Aside0.mk hps
 have h0 : ¬ (n : Int) < 0 := by omega
 have h1 : ¬ (n : Int) > 16777216 := by omega
 have h2 : ¬ (n : Int) = 0 := by omega
 have h3 : ¬ (xs.length : Int) > 16777216 - (n : Int) := by omega
 clear h hx hm hn hn6 hts hps
 go_enter Tryz.func15, Tryz.ntmps15
 go_upto_region 9 with (first | (go_at_call 51; refine (KProps.pjoins_c H.out HX.out (by have := HM.out; omega)).mono ?_; rintro e w1 ⟨u, rfl, hr, hb⟩; rw [← HTS.out] at hr; obtain ⟨B, d, ed⟩ := Kd.R_slice hr; subst ed; rw [HTL.out]; have HT := Aside0.mk (SLk.of_R hr); have HB1 := Aside0.mk hb; clear hr hb) | ((with_reducible refine gate_dst (N := 9) rfl ?_); refine box_event ?hg (N := 9) ?hd (cs := #[.slice none 0 0, .slice none 0 0]) (t := 82) ?hr ?_; (case hd => rfl); (case hg => rfl); (case hr => first | (go_simp; done) | (go_simp; rfl)); intro g9 hg w2 hbox hb; have HX9 := Aside0.mk hbox; have HG9 : Aside0 (w.heap.size ≤ g9) := ⟨by rw [hg]; exact HB1.out.size⟩; have HG91 : Aside0 (w1.heap.size ≤ g9) := ⟨by rw [hg]; exact Nat.le_refl _⟩; have HB2 : Aside0 (Below w.heap.size w w2) := ⟨below_step HB1.out hb⟩; have HB12 := Aside0.mk hb; have z0 : w2.cell? ⟨g9, 0, none⟩ = some (.slice none 0 0) := (blk_cell hbox 0).trans rfl; have z1 : w2.cell? ⟨g9, 1, none⟩ = some (.slice none 0 0) := (blk_cell hbox 1).trans rfl; have f0 := blk_frozen hbox 0; have f1 := blk_frozen hbox 1; clear hg hbox hb))
 have HY9 := Aside0.mk (blk_put (blk_put HX9.out 0 (.slice A xs.length c) rfl) 1 (.slice B xs.length d) rfl)
 have HGG := Aside0.mk (World.grownBy.trans (grown_set w2 g9 0 (.slice A xs.length c)) (grown_set _ g9 1 (.slice B xs.length d)))
 generalize (w2.setCell ⟨g9, 0, none⟩ (.slice A xs.length c)).setCell ⟨g9, 1, none⟩ (.slice B xs.length d) = w3 at HY9 HGG ⊢
 have HB3 : Aside0 (Below w.heap.size w w3) := ⟨HB2.out.grown HGG.out HB2.out.size (fun j hj => by obtain rfl := Option.some.inj hj; exact HG9.out)⟩
 have HB13 : Aside0 (Below w1.heap.size w1 w3) := ⟨HB12.out.grown HGG.out HB12.out.size (fun j hj => by obtain rfl := Option.some.inj hj; exact HG91.out)⟩
 have HX3 := Aside0.mk (SLk.below HX.out HB3.out)
 have HT3 := Aside0.mk (SLk.below HT.out HB13.out)
 have y0 := (blk_cell HY9.out 0).trans rfl
 have y1 := (blk_cell HY9.out 1).trans rfl
 clear z0 z1 f0 f1 HX9
 by_cases hp0 : ps.length = 0
 ·have e0 : ps = [] := List.eq_nil_of_length_eq_zero hp0
  have hp0I : (ps.length : Int) = 0 := by omega
  clear hp0
  go_wp2_with (first | (go_at_call 56; have hcon := KPlaces.textPlaces_c HX3.out HT3.out HTL.out (by have := HM.out; omega); rw [HTL.out] at hcon; refine hcon.mono ?_; rintro e w4 ⟨u10, rfl, hr, hb⟩; clear hcon; rw [← HPS.out] at hr; obtain ⟨Ap, cp, ep⟩ := Kd.R_slice hr; rw [List.length_map] at ep; subst ep; have HP4 := Aside0.mk (SLk.of_R hr); have HB34 := Aside0.mk hb; have HB4 : Aside0 (Below w.heap.size w w4) := ⟨below_step HB3.out hb⟩; clear hr hb))
  refine bodyPost_ret (results_tmp3 rfl _ _ _) rfl ?_
  exact ⟨HB4.out, .inl ⟨e0, rfl⟩⟩
 ·have HP0 : Aside0 (0 < ps.length) := ⟨by omega⟩
  have hp0I : ¬ (ps.length : Int) = 0 := by omega
  clear hp0
  go_upto_region 14 with (first | (go_at_call 56; have hcon := KPlaces.textPlaces_c HX3.out HT3.out HTL.out (by have := HM.out; omega); rw [HTL.out] at hcon; refine hcon.mono ?_; rintro e w4 ⟨u10, rfl, hr, hb⟩; clear hcon; rw [← HPS.out] at hr; obtain ⟨Ap, cp, ep⟩ := Kd.R_slice hr; rw [List.length_map] at ep; subst ep; have HP4 := Aside0.mk (SLk.of_R hr); have HB34 := Aside0.mk hb; have HB4 : Aside0 (Below w.heap.size w w4) := ⟨below_step HB3.out hb⟩; clear hr hb) | ((with_reducible refine gate_dst (N := 51) rfl ?_); refine Kd.R_make (Kd.int .i64) (w0 := w4) w4.heap.size 3 rfl rfl 22 (.tmp 50) (.tmp 50) rfl (xs.length : Int) (by first | (go_simp; done) | (go_simp; rfl)) (by first | (go_simp; done) | (go_simp; rfl)) Tryz.underlying22 (.int .i64 0) 8 KPlaces.info3 rfl (by decide) (by omega) (0 : Int) (ok := fun _ => True) (okp := fun _ => False) rfl (fun _ h => h.elim) trivial (by omega) (by have := HM.out; simp only [Int.toNat_natCast]; omega) (Below.refl _ _) (Nat.le_refl _) ?_; intro v5 w5 hv hb hg hat; rw [Int.toNat_natCast] at hv; obtain ⟨Am, cm, em⟩ := Kd.R_slice hv; rw [List.length_replicate] at em; subst em; have HV5 : Aside0 (Kd.R (Kd.int .i64) 3 w5 w4.heap.size (fun _ => True) (.slice Am xs.length cm) (ints (manyTo ts xs.length n ps 0))) := ⟨by rw [manyTo, ints_zero]; exact hv⟩; have HB5 := Aside0.mk hb; clear hv hb hg hat))
  clear y0 y1
  go_loopw [54] (fun v wr => ∃ i : Nat, v = .int .i64 i ∧ i ≤ ps.length ∧ Aside0 (Kd.R (Kd.int .i64) 3 wr w4.heap.size (fun _ => True) (.slice Am xs.length cm) (ints (manyTo ts xs.length n ps i))) ∧ Aside0 (Below w4.heap.size w4 wr)) (fun v _ => ps.length - (intOf v).toNat)
  case atStart => exact ⟨0, rfl, Nat.zero_le _, HV5, HB5⟩
  case round =>
   obtain ⟨i, rfl, hi, HV, HB⟩ := hrel
   have HYr : Aside0 (wr.heap[g9]? = some (.cells #[.slice A xs.length c, .slice B xs.length d] 82 (0, 0))) := ⟨((below_step HB34.out HB.out).block _ (blk_lt HY9.out)).trans HY9.out⟩
   have HB3r : Aside0 (Below w3.heap.size w3 wr) := ⟨below_step HB34.out HB.out⟩
   have x0 := (blk_cell HYr.out 0).trans rfl
   have x1 := (blk_cell HYr.out 1).trans rfl
   by_cases hli : i < ps.length
   ·have hiI : (i : Int) < (ps.length : Int) := by omega
    have hi9 : (i : Int) ≤ 1000000 := by have h1 := placesN_le HPS.out; have := HM.out; omega
    have hi0 : 0 ≤ (i : Int) := by omega
    obtain ⟨adp, cp', ep, c0⟩ := SLk.at_int (SLk.below HP4.out HB.out) (i : Int) (by omega) (by rw [List.length_map]; omega)
    injection ep with ep e2 e3
    clear e2 e3
    subst ep
    rw [Int.toNat_natCast, rd_get (by rw [List.length_map]; exact hli), List.getElem_map] at c0
    have hmem : ps[i] ∈ placesN xs ts xs.length := by rw [← HPS.out]; exact List.getElem_mem _
    have HPL : Aside0 (ps[i] < xs.length) := ⟨(mem_placesN.1 hmem).1⟩
    clear hmem
    have HPG : Aside0 (ps.getD i 0 = ps[i]) := ⟨by rw [List.getD_eq_getElem?_getD, List.getElem?_eq_getElem hli]; rfl⟩
    generalize ps[i] = p at c0 HPL HPG
    have HI := Aside0.mk hli
    clear hli hi
    obtain ⟨M, hM⟩ : ∃ M, M = manyTo ts xs.length n ps i := ⟨_, rfl⟩
    have HML : Aside0 (M.length = xs.length) := ⟨by rw [hM]; exact manyTo_len _ _ _ _ _⟩
    obtain ⟨b, hb⟩ : ∃ b, b = mEnd ts xs.length p := ⟨_, rfl⟩
    have HBE := Aside0.mk hb
    have HBL : Aside0 (b < xs.length) := ⟨by rw [hb]; have h1 := mEnd_lt ts xs.length p (by rw [HTL.out]; exact HPL.out); rw [HTL.out] at h1; exact h1⟩
    obtain ⟨sh, hsh⟩ : ∃ sh, sh = share n ps.length i := ⟨_, rfl⟩
    have HNX : Aside0 (manyTo ts xs.length n ps (i + 1) = M.set b (M.getD b 0 + sh)) := ⟨by rw [manyTo, HPG.out, ← hb, ← hM, ← hsh]⟩
    have HMS : Aside0 (M.getD b 0 ≤ n) := ⟨by
     have h1 := getD_le_sum M b
     have h2 := manyTo_sum ts xs.length n ps HTL.out (fun q hq => (mem_placesN.1 (by rw [← HPS.out]; exact hq)).1) i (by have := HI.out; omega)
     have h3 := shares_le n ps.length HP0.out i (by have := HI.out; omega)
     rw [hM] at h1 ⊢
     omega⟩
    obtain ⟨y, hy⟩ : ∃ y, y = M.getD b 0 := ⟨_, rfl⟩
    rw [← hy] at HNX HMS
    have HYE := Aside0.mk hy
    rw [← hM] at HV
    obtain ⟨gm, capm, em, -, -, -⟩ := Kd.R_form HV.out (by rw [ints_len, HML.out]; have := HBL.out; omega)
    rw [ints_len, HML.out] at em
    injection em with em e2 e3
    clear e2
    subst em
    subst e3
    have hq : wrap64 ((n : Int) / (ps.length : Int)) = ((n / ps.length : Nat) : Int) := by
     have h1 : ((n / ps.length : Nat) : Int) = (n : Int) / (ps.length : Int) := by simp
     have h2 : n / ps.length ≤ n := Nat.div_le_self _ _
     have h3 := HN6.out
     have h5 : (0 : Int) ≤ (n : Int) / (ps.length : Int) := Int.ediv_nonneg (by omega) (by omega)
     have h4 := w64 (n := ((n / ps.length : Nat) : Int)) (by omega) (by omega)
     rw [← h1]
     exact h4
    have hr : (n : Int) % (ps.length : Int) = ((n % ps.length : Nat) : Int) := by simp
    have hq9 : n / ps.length ≤ 60 := Nat.le_trans (Nat.div_le_self _ _) HN6.out
    have hy9 : (y : Int) ≤ 60 := by have h1 := HMS.out; have h2 := HN6.out; omega
    have hbI : (b : Int) < (xs.length : Int) := by have := HBL.out; omega
    have hb0 : 0 ≤ (b : Int) := by omega
    have HSH := Aside0.mk hsh
    clear hM hb hsh hy
    go_upto_region 17 with (fail)
    rw [hq]
    clear hq
    unfold share at HSH
    generalize n / ps.length = q at hq9 HSH ⊢
    by_cases hlt : i < n % ps.length
    ·have hltI : (i : Int) < ((n % ps.length : Nat) : Int) := by omega
     rw [if_pos hlt] at HSH
     have hse := HSH.out
     clear HSH
     subst hse
     generalize n % ps.length = r at hr hltI
     clear hlt
     have ev : ((y + (q + 1) : Nat) : Int) = (y : Int) + ((q : Int) + 1) := by omega
     have HEV := Aside0.mk ev; clear ev
     go_wp2_with (first | (go_at_call 57; have hcon := KBehind.behind_c (SLk.below HX3.out HB3r.out) (SLk.below HT3.out HB3r.out) HTL.out (by have := HM.out; omega) p HPL.out; rw [HTL.out] at hcon; refine hcon.mono ?_; rintro e w6 ⟨rfl, hb⟩; clear hcon; rw [← HBE.out]; have hv2 := Kd.R_below HV.out hb; obtain ⟨z9, z1⟩ := Kd.R_celln (0 : Int) hv2 (b : Int) hb0 hbI; have hp := (Kd.R_putg hv2 (b : Int) ((y + (q + 1) : Nat) : Int)).1; rw [Int.toNat_natCast] at z9 z1 hp; have z0 : w6.cell? ⟨gm, b, none⟩ = some (.int .i64 (y : Int)) := (by rw [z9, rd_ints HYE.out]); clear z9; rw [ints_set, ← HNX.out, HEV.out] at hp; have HP := Aside0.mk hp; have HGM : Aside0 (w4.heap.size ≤ gm) := ⟨Kd.R_base hv2 gm (by simp [Value.ownBlock])⟩; have HB6 : Aside0 (Below w4.heap.size w4 w6) := ⟨below_step HB.out hb⟩; clear hb hv2 hp))
     exact ⟨⟨i + 1, by go_num, by have := HI.out; omega, HP, ⟨HB6.out.setCell (p := ⟨gm, b, none⟩) HGM.out _⟩⟩, by have := HI.out; simp [intOf]; omega⟩
    ·have hltI : ¬ (i : Int) < ((n % ps.length : Nat) : Int) := by omega
     rw [if_neg hlt, Nat.add_zero] at HSH
     have hse := HSH.out
     clear HSH
     subst hse
     generalize n % ps.length = r at hr hltI
     clear hlt
     have ev : ((y + sh : Nat) : Int) = (y : Int) + (sh : Int) := by omega
     have HEV := Aside0.mk ev; clear ev
     go_wp2_with (first | (go_at_call 57; have hcon := KBehind.behind_c (SLk.below HX3.out HB3r.out) (SLk.below HT3.out HB3r.out) HTL.out (by have := HM.out; omega) p HPL.out; rw [HTL.out] at hcon; refine hcon.mono ?_; rintro e w6 ⟨rfl, hb⟩; clear hcon; rw [← HBE.out]; have hv2 := Kd.R_below HV.out hb; obtain ⟨z9, z1⟩ := Kd.R_celln (0 : Int) hv2 (b : Int) hb0 hbI; have hp := (Kd.R_putg hv2 (b : Int) ((y + sh : Nat) : Int)).1; rw [Int.toNat_natCast] at z9 z1 hp; have z0 : w6.cell? ⟨gm, b, none⟩ = some (.int .i64 (y : Int)) := (by rw [z9, rd_ints HYE.out]); clear z9; rw [ints_set, ← HNX.out, HEV.out] at hp; have HP := Aside0.mk hp; have HGM : Aside0 (w4.heap.size ≤ gm) := ⟨Kd.R_base hv2 gm (by simp [Value.ownBlock])⟩; have HB6 : Aside0 (Below w4.heap.size w4 w6) := ⟨below_step HB.out hb⟩; clear hb hv2 hp))
     exact ⟨⟨i + 1, by go_num, by have := HI.out; omega, HP, ⟨HB6.out.setCell (p := ⟨gm, b, none⟩) HGM.out _⟩⟩, by have := HI.out; simp [intOf]; omega⟩
   ·obtain rfl : i = ps.length := by omega
    clear hli hi
    obtain ⟨M, hM⟩ : ∃ M, M = manyTo ts xs.length n ps ps.length := ⟨_, rfl⟩
    have HML : Aside0 (M.length = xs.length) := ⟨by rw [hM]; exact manyTo_len _ _ _ _ _⟩
    have HMS : Aside0 (M.sum = n) := ⟨by rw [hM, manyTo_sum ts xs.length n ps HTL.out (fun q hq => (mem_placesN.1 (by rw [← HPS.out]; exact hq)).1) ps.length (Nat.le_refl _)]; exact shares_all n ps.length HP0.out⟩
    rw [← hM] at HV
    have HME := Aside0.mk hM
    clear hM x0 x1
    obtain ⟨wr0, hwr0⟩ : ∃ wr0, wr0 = wr := ⟨_, rfl⟩
    subst hwr0
    go_upto_region 25 with (first | (go_at_call 58; refine (Cel.new_c xs.length (by have := HM.out; omega)).mono ?_; rintro e w6 ⟨b, rfl, hc, hb⟩; have HC6 := Aside0.mk hc; have HB6 := Aside0.mk hb; clear hc hb))
    go_loopw [92] (fun v wq => ∃ j : Nat, v = .int .i64 j ∧ j ≤ xs.length ∧ Aside0 (CellsAt 100 wq (fun q => wr0.heap.size ≤ q) b (Lto xs M j) []) ∧ Aside0 (Below wr0.heap.size wr0 wq)) (fun v _ => xs.length - (intOf v).toNat)
    case atStart => exact ⟨0, rfl, Nat.zero_le _, ⟨by rw [Lto_zero]; exact HC6.out⟩, HB6⟩
    case round =>
     clear HC6 HB6
     obtain ⟨j, rfl, hj, HC, HBQ⟩ := hrel
     have HBwr : Aside0 (Below w.heap.size w wr0) := ⟨below_step HB4.out HB.out⟩
     have HBwq : Aside0 (Below w.heap.size w wr) := ⟨below_step HBwr.out HBQ.out⟩
     by_cases hlj : j < xs.length
     ·have hjI : (j : Int) < (xs.length : Int) := by omega
      have hj0 : 0 ≤ (j : Int) := by omega
      have hj9 : (j : Int) ≤ 60 := by have := HM.out; omega
      obtain ⟨adx, cx', ex, c0⟩ := SLk.at_int (SLk.below HX.out HBwq.out) (j : Int) hj0 hjI
      injection ex with ex e2 e3
      clear e2 e3
      subst ex
      rw [Int.toNat_natCast, rd_get hlj] at c0
      have hvq := Kd.R_below HV.out HBQ.out
      obtain ⟨gm, capm, em, -, -, -⟩ := Kd.R_form hvq (by rw [ints_len, HML.out]; omega)
      rw [ints_len, HML.out] at em
      injection em with em e2 e3
      clear e2
      subst em
      subst e3
      obtain ⟨y, hy⟩ : ∃ y, y = M.getD j 0 := ⟨_, rfl⟩
      obtain ⟨z9, z1⟩ := Kd.R_celln (0 : Int) hvq (j : Int) hj0 hjI
      rw [Int.toNat_natCast] at z9
      have z0 : wr.cell? ⟨gm, j, none⟩ = some (.int .i64 (y : Int)) := (by rw [z9, rd_ints hy])
      have HY60 : Aside0 (y ≤ 60) := ⟨by have h1 := getD_le_sum M j; have h2 := HMS.out; have h3 := HN6.out; omega⟩
      have HST : Aside0 ((Lto xs M j).set j (xs[j] :: List.replicate y 1600) = Lto xs M (j + 1)) := ⟨by rw [hy]; exact Lto_set xs M hlj⟩
      have HLL : Aside0 (j < (Lto xs M j).length) := ⟨by rw [Lto_len xs M hj]; exact hlj⟩
      generalize xs[j] = x at c0 HST
      have HJ := Aside0.mk hlj
      clear z9 z1 hvq hy hlj hj
      have z2 : ((wr.alloc (.cells #[.int .i64 x] 3 (0, 0))).alloc (.cells #[.int .i64 1600] 3 (0, 0))).cell? ⟨gm, j, none⟩ = some (.int .i64 (y : Int)) := ((below_alloc (below_alloc (Below.refl _ _) _) _).cell (World.block_lt_of_cell? _ _ z0)).trans z0
      have HO1 := Aside0.mk (Kd.R_alloc (R_one wr x) (.cells #[.int .i64 1600] 3 (0, 0)))
      have HO2 : Aside0 (SL ((wr.alloc (.cells #[.int .i64 x] 3 (0, 0))).alloc (.cells #[.int .i64 1600] 3 (0, 0))) (.slice (some ⟨wr.heap.size + 1, 0, none⟩) 1 1) [1600]) := ⟨by
       have h := SLk.of_R (R_one (wr.alloc (.cells #[.int .i64 x] 3 (0, 0))) 1600)
       rwa [show (wr.alloc (.cells #[.int .i64 x] 3 (0, 0))).heap.size = wr.heap.size + 1 by simp] at h⟩
      have HBA : Aside0 (Below wr.heap.size wr ((wr.alloc (.cells #[.int .i64 x] 3 (0, 0))).alloc (.cells #[.int .i64 1600] 3 (0, 0)))) := ⟨below_alloc (below_alloc (Below.refl _ _) _) _⟩
      go_wp2_with (first | (go_at_call 60; refine (KRep.repeat_c HO2.out y (by have := HY60.out; omega)).mono ?_; rintro e w7 ⟨u, rfl, hr, hb⟩; obtain ⟨Ar, cr, er, hcr, hCr⟩ := hr; rw [List.length_replicate] at er hCr; subst er; have HCr := Aside0.mk hCr; have HO7 := Aside0.mk (Kd.R_below HO1.out hb); have HB7 : Aside0 (Below wr.heap.size wr w7) := ⟨below_step HBA.out hb⟩; clear hb hcr hCr) | ((with_reducible refine gate_builtin (b := .append) (xs := #[.tmp 100, .tmp 106]) rfl ?_); at_builtin; refine Kd.R_append_rows (Kd.int .i64) (w0 := wr) wr.heap.size rfl (.tmp 100) (.tmp 106) 22 3 (.int .i64 0) 8 rfl Tryz.underlying22 KPlaces.info3 rfl (by decide) (by omega) (.slice (some ⟨wr.heap.size, 0, none⟩) 1 1) [x] (List.replicate y 1600) Ar y cr (fun _ => True) (fun _ => False) (by first | rfl | (go_simp; done) | (go_simp; rfl)) (by first | rfl | (go_simp; done) | (go_simp; rfl)) (Kd.R_mono HO7.out (fun _ _ => trivial)) HCr.out (fun x cs h => h) (fun _ h => h.elim) (fun _ _ => trivial) HB7.out HB7.out.size (by have := HY60.out; simp only [List.length_singleton]; omega) ?_; intro v8 w8 hv hb hg hat; have HV8 := Aside0.mk (SLk.of_R hv); have HB8 := Aside0.mk hb; clear hv hb hg hat) | (go_at_call 59; refine (Cel.set_c (HC.out.below HB8.out) j HLL.out HV8.out (by have := HY60.out; rw [List.length_append, List.length_replicate]; simp only [List.length_singleton]; omega)).mono ?_; rintro e w9 ⟨rfl, hc, he⟩; have HC9 : Aside0 (CellsAt 100 w9 (fun q => wr0.heap.size ≤ q) b (Lto xs M (j + 1)) []) := ⟨by rw [← HST.out]; exact hc.mono (fun q hq => hq.elim (fun h => h) (fun h => Nat.le_trans HBQ.out.size (Nat.le_trans HB8.out.size h)))⟩; have HB9 : Aside0 (Below wr0.heap.size wr0 w9) := ⟨(below_step HBQ.out HB8.out).trans (he.below (Nat.le_trans HBQ.out.size HB8.out.size) (fun k hk => hk))⟩; clear hc he))
      exact ⟨⟨j + 1, by go_num, by have := HJ.out; omega, HC9, HB9⟩, by have := HJ.out; simp [intOf]; omega⟩
     ·obtain rfl : j = xs.length := by omega
      clear hlj hj
      have HL : Aside0 ((rowsOf xs M).length ≤ 60 ∧ (rowsOf xs M).flatten.length = xs.length + n) := ⟨by rw [rowsOf_len]; exact HM.out, by rw [rowsOf_flat xs M HML.out, HMS.out]⟩
      have HCE : Aside0 (CellsAt 100 wr (fun q => wr0.heap.size ≤ q) b (rowsOf xs M) []) := ⟨by rw [← Lto_end]; exact HC.out⟩
      have HSTR : Aside0 (strL xs n = rowsOf xs M) := ⟨by unfold strL; rw [HME.out, HTS.out, HPS.out, HTS.out]⟩
      go_wp2_with (first | (go_at_call 61; refine (Cel.clu_one HCE.out (by have := HL.out.1; omega) (Nat.zero_le _) (by have h1 := HL.out.2; have h2 := HM.out; have h3 := HN6.out; omega)).mono ?_; rintro e w10 ⟨v10, r10, rfl, hb, hc⟩; obtain ⟨-, -, rfl, FF, hf, hs⟩ := hc.resolve_left (fun h => absurd h.1 (by have h1 := HL.out.2; have h2 := HN.out; omega)); have HF10 := Aside0.mk hf; have HS10 := Aside0.mk hs; have HB10 : Aside0 (Below w.heap.size w w10) := ⟨below_step HBwq.out hb⟩; have HC10 := Aside0.mk (HCE.out.below hb); clear hb hc hf hs) | (go_at_call 30; refine (Cel.text_c HC10.out (by have := HL.out.1; omega) (by have h1 := HL.out.2; have h2 := HM.out; have h3 := HN6.out; omega)).mono ?_; rintro e w11 ⟨u11, rfl, hr, hb⟩; have HR11 := Aside0.mk hr; have HB101 := Aside0.mk hb; have HB11 : Aside0 (Below w.heap.size w w11) := ⟨below_step HB10.out hb⟩; clear hr hb))
      refine bodyPost_ret (results_tmp3 rfl _ _ _) rfl ?_
      refine ⟨HB11.out, .inr ⟨HP0.out, _, _, FF, rfl, ?_⟩⟩
      rw [HSTR.out]
      exact ⟨SLk.of_R HR11.out, HF10.out, SLk.below HS10.out HB101.out⟩
end Go.Proofs.YtemhccjjcioodaaGreat.KStretch
end
section
namespace Go.Proofs.YtemhccjjcioodaaGreat.KAwk
open Go.RowKit Go.Proofs.YtemhccjjcioodaaGreatW.PrintWords Go.Proofs.YtemhccjjcioodaaGreatW.PrintMore Go.Proofs.YtemhccjjcioodaaGreatW.PrintLast Go.Proofs.YtemhccjjcioodaaGreat.U Go.Proofs.YtemhccjjcioodaaGreat.PClusterFinest Go.Proofs.YtemhccjjcioodaaGreat.UFinest Go.Proofs.YtemhccjjcioodaaGreat.KStretch
open Go.Proofs.YtemhccjjcioodaaGreat.UGroups (groups)
open Go.Proofs.YtemhccjjcioodaaGreat.UFinEv (lkOf)
open Go.Proofs.YtemhccjjcioodaaGreat.Cel (linksOf)
open Go.Proofs.YtemhccjjcioodaaGreat.CFin (cluS)
theorem j1 : CJoins.jn 1576 = 3 := by kernel_rfl
theorem j2 : CJoins.jn 1575 = 2 := by kernel_rfl
theorem aw_str : strL [1576, 1575] 2 = [[1576, 1600, 1600], [1575]] := by
 unfold strL
 rw [List.map_cons, List.map_cons, List.map_nil, j1, j2]
 kernel_rfl
abbrev akL : List S45 := [⟨⟨0, 1⟩, ⟨0, 3⟩⟩, ⟨⟨1, 2⟩, ⟨3, 4⟩⟩]
theorem aw_links : linksOf [[1576, 1600, 1600], [1575]] (groups 2 []) = (akL, 4) := by kernel_rfl
def akC (x : Nat) : Nat := if x = 1 ∨ x = 5 then 1 else 0
theorem ak_closed : Closed 2 4 (akL.map lkOf) (fun x y => akC x = akC y) := by
 have hm : ∀ x, x ∈ akL.map lkOf ↔ x = ⟨0, 1, 0, 3⟩ ∨ x = ⟨1, 2, 3, 4⟩ := fun x => by simp [lkOf]
 refine ⟨⟨fun _ => rfl, fun _ _ h => h.symm, fun _ _ _ h h' => h.trans h'⟩, fun x hx i h1 h2 => ?_, fun x hx i h1 h2 => ?_, fun x hx => ?_, fun i h0 h1 h2 => ?_, fun i h1 h2 => ?_, fun i j k h1 h2 h3 h4 => ?_, fun i j k h0 h1 h2 h3 h4 => ?_⟩
 ·have e : x.a = i := by rcases (hm x).1 hx with rfl | rfl <;> (dsimp only at h1 h2 ⊢; omega)
  rw [e]
 ·rcases (hm x).1 hx with rfl | rfl
  ·dsimp only at h1 h2 ⊢
   unfold akC
   rw [if_neg (by omega), if_neg (by omega)]
  ·dsimp only at h1 h2 ⊢
   obtain rfl : i = 3 := by omega
   rfl
 ·rcases (hm x).1 hx with rfl | rfl <;> rfl
 ·obtain rfl : i = 1 := by omega
  exact absurd h2 (by decide)
 ·exact absurd h1 (by rw [show firstF (akL.map lkOf) 2 = 0 by decide]; exact Nat.not_lt_zero _)
 ·have e : i = j ∨ j = k := by omega
  rcases e with rfl | rfl
  ·rfl
  ·exact h4
 ·unfold akC at h4 ⊢
  by_cases a1 : i = 1 ∨ i = 5 <;> by_cases a2 : j = 1 ∨ j = 5 <;> by_cases a3 : k = 1 ∨ k = 5 <;> simp only [a1, a2, a3, if_true, if_false] at h4 ⊢ <;> omega
theorem ak_len {L : Lab} (h : FinOk 2 4 (akL.map lkOf) L) : (cluS 2 4 L 2).length = 2 := by
 have hs := h.sound _ ak_closed
 have ne : L 0 ≠ L 1 := fun e => by
  have h0 := hs 0
  have h1 := hs 1
  rw [← e] at h1
  have : akC 0 = akC 1 := h0.trans h1.symm
  exact absurd this (by decide)
 have ne' : ¬ L 1 = L 0 := fun e => ne e.symm
 unfold cluS cluTo
 simp [List.range_succ, List.filterMap, ne']
theorem aw_places : UKash.placesN [1576, 1575] ([1576, 1575].map CJoins.jn) [1576, 1575].length = [0] := by
 rw [List.map_cons, List.map_cons, List.map_nil, j1, j2]
 kernel_rfl
end Go.Proofs.YtemhccjjcioodaaGreat.KAwk
end
section
namespace Go.Proofs.YtemhccjjcioodaaGreat.KAwk
open Go.RowKit Go.Proofs.YtemhccjjcioodaaGreatW.PrintWords Go.Proofs.YtemhccjjcioodaaGreatW.PrintMore Go.Proofs.YtemhccjjcioodaaGreatW.PrintLast Go.Proofs.YtemhccjjcioodaaGreat.U Go.Proofs.YtemhccjjcioodaaGreat.PClusterFinest Go.Proofs.YtemhccjjcioodaaGreat.UFinest Go.Proofs.YtemhccjjcioodaaGreat.KStretch
open Go.Proofs.YtemhccjjcioodaaGreat.UGroups (groups)
open Go.Proofs.YtemhccjjcioodaaGreat.UFinEv (lkOf)
open Go.Proofs.YtemhccjjcioodaaGreat.Cel (linksOf)
open Go.Proofs.YtemhccjjcioodaaGreat.CFin (cluS)
set_option maxRecDepth 100000 in
set_option maxHeartbeats 8000000 in
theorem awake_c {w : World} : Calls Tryz.prog 13 #[] w fun e w' => e = .returned (.bool true) ∧ Below w.heap.size w w' := by
 go_enter Tryz.func13, Tryz.ntmps13
 go_upto_region 2 with (first | (go_at_call 14; refine (CProps.new_c _).mono ?_; rintro e w1 ⟨g, rfl, hp, hb⟩; have HP := Aside0.mk hp; have HB1 := Aside0.mk hb; clear hp hb) | (go_at_call 15; have hcon := stretch_c (HP.out.below (below_alloc (Below.refl _ _) _)) (A := some ⟨w1.heap.size, 0, none⟩) (c := 2) (CBase.SL_lit w1 3 [1576, 1575] (by decide)) (by decide) 2 (by decide) (by decide); refine hcon.mono ?_; clear hcon; rintro e w2 ⟨hb, hc⟩; obtain ⟨-, u, v, F, rfl, hs, hf, hl⟩ := hc.resolve_left (fun h => absurd (h.1.symm.trans aw_places) (by decide)); rw [aw_str] at hs hf hl; obtain ⟨Ac, cc, ev, -, -⟩ := hl; have hf2 : FinOk 2 4 (akL.map lkOf) F := (by have h := hf; rwa [show (linksOf [[1576, 1600, 1600], [1575]] (groups ([[1576, 1600, 1600], [1575]] : List (List Int)).length [])).1 = akL by exact congrArg Prod.fst aw_links] at h); have hlen := ak_len hf2; have hlen2 : (cluS ([[1576, 1600, 1600], [1575]] : List (List Int)).length ([[1576, 1600, 1600], [1575]] : List (List Int)).flatten.length F ([[1576, 1600, 1600], [1575]] : List (List Int)).length).length = 2 := hlen; rw [hlen2] at ev; subst ev; have HS := Aside0.mk hs; have HB2 : Aside0 (Below w.heap.size w w2) := ⟨below_step HB1.out (below_step (below_alloc (Below.refl _ _) _) hb)⟩; clear hb hc hs hf hf2 hlen hlen2))
 go_wp2_with (first | (go_at_call 17; refine (CBase.equal_c (xs := [1576, 1600, 1600, 1575]) (HS.out.below (below_alloc (Below.refl _ _) _)) (CBase.SL_lit w2 3 [1576, 1600, 1600, 1575] (by decide)) (by decide)).mono ?_; rintro e w3 ⟨rfl, hb⟩; have HB3 : Aside0 (Below w.heap.size w w3) := ⟨below_step HB2.out (below_step (below_alloc (Below.refl _ _) _) hb)⟩; clear hb) | (go_at_call 21; refine (KRank.rank_c 1587 _).mono ?_; rintro e w4 ⟨rfl, hb⟩; have HB4 : Aside0 (Below w.heap.size w w4) := ⟨below_step HB3.out hb⟩; clear hb))
 have e2 : (KRank.rankO 1587 == 2) = true := by decide
 rw [e2]
 go_ret
 exact ⟨rfl, HB4.out⟩
end Go.Proofs.YtemhccjjcioodaaGreat.KAwk
end
section
namespace Go.Proofs.YtemhccjjcioodaaGreat
open Go.RowKit Go.Proofs.YtemhccjjcioodaaGreatW.PrintWords Go.Proofs.YtemhccjjcioodaaGreatW.PrintMore Go.Proofs.YtemhccjjcioodaaGreatW.PrintLast Go.Proofs.YtemhccjjcioodaaGreat.U Go.Proofs.YtemhccjjcioodaaGreat.PClusterFinest Go.Proofs.YtemhccjjcioodaaGreat.KPlace Go.Proofs.YtemhccjjcioodaaGreat.UKash Go.Proofs.YtemhccjjcioodaaGreat.KRank
open Go.Proofs.YtemhccjjcioodaaGreat.UJoin (joinedI behindI)
open Go.Proofs.YtemhccjjcioodaaGreat.CProps (PropsAt)
open Go.Proofs.YtemhccjjcioodaaGreat.PKashidaStretches (naskhref14_Alef.f naskhref09_Ligate.f naskhref09_Ligate.calls)
theorem info4 : (Tryz.prog.info? 4).map (fun i => (i.zero, i.size, i.bytes)) = some (some (.bool false), 1, 1) := by kernel_rfl
theorem ligate_c (c : Int) (w : World) : Calls Tryz.prog 25 #[.int .i64 c, .int .i64 1] w fun e w' => ∃ x : Int, e = .returned (.tuple #[.int .i64 x, .bool (alefB c)]) ∧ Below w.heap.size w w' := by
 have h := ralef_f c
 unfold naskhref14_Alef.f at h
 cases hl : naskhref09_Ligate.f 20 c 1 with
 | none => rw [hl] at h; cases h
 | some p =>
  obtain ⟨x, b⟩ := p
  rw [hl] at h
  have hb : b = alefB c := Option.some.inj h
  subst hb
  exact (naskhref09_Ligate.calls 20 c 1 x _ w hl).mono fun e w' h => ⟨x, h.1, h.2⟩
theorem placesN_nodup (xs ts : List Int) (n : Nat) : (placesN xs ts n).Nodup :=
 (placesN_sorted xs ts n 6).imp (fun {a b} h e => by subst e; rcases h with h | h <;> simp at h)
theorem not_in_take {l : List Nat} (h : l.Nodup) {k : Nat} (hk : k < l.length) : l[k] ∉ l.take k := by
 intro hm
 obtain ⟨j, hj, e⟩ := List.mem_iff_getElem.1 hm
 rw [List.length_take] at hj
 rw [List.getElem_take] at e
 exact List.pairwise_iff_getElem.1 h j k (by omega) hk (by omega) e
set_option maxRecDepth 100000 in
set_option maxHeartbeats 16000000 in
theorem kashidaPlacesWalk (l0 : List Int) (w : World) (A0 : Option Addr) (c0 : Nat) (hr0 : Kd.C (Kd.int .i64) w A0 l0.length l0) (hc0 : l0.length ≤ c0) (hm0 : l0.length ≤ maxLen) (_ : l0.length * 8 ≤ 140737488351232) (_ : ∀ x ∈ l0, (Lit.int .i64 x).wf = true) :
 Calls Tryz.prog 4 #[.slice A0 l0.length c0] w fun e w' => e = .returned (.bool true) ∧ Below w.heap.size w w' := by
 have H := Aside0.mk (SLk.mk hr0 hc0)
 clear hr0 hc0 hm0
 by_cases g : 100 < l0.length
 ·have g1 : (l0.length : Int) > 100 := by omega
  clear g
  go_enter Tryz.func4, Tryz.ntmps4
  go_wp2_with fail
  refine KAwk.awake_c.mono ?_
  rintro e w1 ⟨rfl, hb⟩
  go_wp2
  go_ret
  exact ⟨rfl, hb⟩
 ·have g1 : ¬ (l0.length : Int) > 100 := by omega
  have HM : Aside0 (l0.length ≤ 100) := ⟨by omega⟩
  clear g
  obtain ⟨ts, hts⟩ : ∃ ts, ts = l0.map CJoins.jn := ⟨_, rfl⟩
  have HTL : Aside0 (ts.length = l0.length) := ⟨by rw [hts, List.length_map]⟩
  have HTS := Aside0.mk hts
  obtain ⟨ps, hps⟩ : ∃ ps, ps = placesN l0 ts l0.length := ⟨_, rfl⟩
  have HPS := Aside0.mk hps
  clear hts hps
  go_enter Tryz.func4, Tryz.ntmps4
  go_upto_region 6 with (first | (go_at_call 23; refine (CJoins.joins_c H.out (by have := HM.out; omega)).mono ?_; rintro e w1 ⟨u, rfl, hs, hb⟩; rw [← HTS.out] at hs; obtain ⟨B, d, ed, -, -⟩ := id hs; subst ed; rw [HTL.out]; have HT : Aside0 (SL w1 (.slice B l0.length d) ts) := ⟨by rw [← HTL.out]; exact hs⟩; have HB1 := Aside0.mk hb; clear hs hb) | ((with_reducible refine gate_dst (N := 17) rfl ?_); refine Kd.R_make Kd.bool (w0 := w1) w1.heap.size 4 rfl rfl 41 (.tmp 16) (.tmp 16) rfl (l0.length : Int) (by first | (go_simp; done) | (go_simp; rfl)) (by first | (go_simp; done) | (go_simp; rfl)) Tryz.underlying41 (.bool false) 1 info4 rfl (by decide) (by omega) false (ok := fun _ => True) (okp := fun _ => False) rfl (fun _ h => h.elim) trivial (by omega) (by have := HM.out; simp only [Int.toNat_natCast]; omega) (Below.refl _ _) (Nat.le_refl _) ?_; intro v5 w5 hv hb hg hat; rw [Int.toNat_natCast] at hv; obtain ⟨Am, cm, em⟩ := Kd.R_slice hv; rw [List.length_replicate] at em; subst em; have HV5 : Aside0 (Kd.R Kd.bool 4 w5 w1.heap.size (fun _ => True) (.slice Am l0.length cm) (List.replicate l0.length false)) := ⟨hv⟩; have HB5 := Aside0.mk hb; clear hv hb hg hat) | (go_at_call 14; refine (CProps.new_c _).mono ?_; rintro e w6 ⟨gp, rfl, hp, hb⟩; have HP6 := Aside0.mk hp; have HB6 : Aside0 (Below w1.heap.size w1 w6) := ⟨below_step HB5.out hb⟩; have HV6 := Aside0.mk (Kd.R_below HV5.out hb); clear hp hb) | (go_at_call 19; refine (KPlaces.places_c HP6.out (SLk.below H.out (below_step HB1.out HB6.out)) (by have := HM.out; omega)).mono ?_; rintro e w7 ⟨u7, rfl, hr, hb⟩; rw [← HTS.out, ← HPS.out] at hr; obtain ⟨Ap, cp, ep⟩ := Kd.R_slice hr; rw [List.length_map] at ep; subst ep; have HR7 := Aside0.mk hr; have HV7 := Aside0.mk (Kd.R_below HV6.out hb); have HB7 : Aside0 (Below w1.heap.size w1 w7) := ⟨below_step HB6.out hb⟩; have HB67 : Aside0 (w1.heap.size ≤ w6.heap.size) := ⟨HB6.out.size⟩; clear hr hb))
  clear HV5 HB5 HP6 HB6 HV6
  go_loopw [22] (fun v wr => ∃ (k : Nat) (bs : List Bool), v = .int .i64 k ∧ k ≤ ps.length ∧ Aside0 (∀ j : Nat, bs.getD j false = true → j ∈ ps.take k) ∧ Aside0 (Kd.R Kd.bool 4 wr w1.heap.size (fun _ => True) (.slice Am l0.length cm) bs) ∧ Aside0 (Kd.R (Kd.int .i64) 3 wr w1.heap.size (fun _ => True) (.slice Ap ps.length cp) (ps.map fun i : Nat => (i : Int))) ∧ Aside0 (Below w1.heap.size w1 wr)) (fun v _ => ps.length - (intOf v).toNat)
  case atStart => exact ⟨0, List.replicate l0.length false, rfl, Nat.zero_le _, ⟨fun j hj => by simp [List.getD_eq_getElem?_getD, List.getElem?_replicate] at hj; split at hj <;> simp at hj⟩, HV7, ⟨Kd.R_lower HR7.out (by have := HB67.out; omega)⟩, HB7⟩
  case round =>
   clear HV7 HR7 HB7 HB67
   obtain ⟨k, bs, rfl, hk, HS, HV, HR, HB⟩ := hrel
   by_cases hlk : k < ps.length
   ·have hkI : (k : Int) < (ps.length : Int) := by omega
    have hk0 : 0 ≤ (k : Int) := by omega
    have hk9 : (k : Int) ≤ 600 := by
     have h1 := KStretch.placesN_le HPS.out; have := HM.out; omega
    obtain ⟨adp, cp', ep, d0⟩ := SLk.at_int (SLk.of_R HR.out) (k : Int) hk0 (by rw [List.length_map]; exact hkI)
    injection ep with ep e2 e3
    clear e2 e3
    subst ep
    rw [Int.toNat_natCast, rd_get (by rw [List.length_map]; exact hlk), List.getElem_map] at d0
    have hmem : ps[k] ∈ placesN l0 ts l0.length := by rw [← HPS.out]; exact List.getElem_mem _
    obtain ⟨hpl, hpb⟩ := mem_placesN.1 hmem
    have hnot : bs.getD ps[k] false = false := by
     cases hb : bs.getD ps[k] false with
     | false => rfl
     | true => exact absurd (HS.out _ hb) (not_in_take (by rw [HPS.out]; exact placesN_nodup _ _ _) hlk)
    have HNX : Aside0 (∀ j : Nat, (bs.set ps[k] true).getD j false = true → j ∈ ps.take (k + 1)) := ⟨fun j hj => by
     rw [List.take_succ_eq_append_getElem hlk]
     by_cases e : j = ps[k]
     ·exact List.mem_append_right _ (List.mem_singleton.2 e)
     ·rw [List.getD_eq_getElem?_getD, List.getElem?_set_ne (fun h => e h.symm), ← List.getD_eq_getElem?_getD] at hj
      exact List.mem_append_left _ (HS.out j hj)⟩
    generalize ps[k] = p at d0 hpl hpb hnot HNX
    clear hmem
    have hp0 : ¬ (p : Int) < 0 := by omega
    have hp1 : ¬ (p : Int) ≥ (l0.length : Int) := by omega
    have hpI : (p : Int) < (l0.length : Int) := by omega
    have hp00 : 0 ≤ (p : Int) := by omega
    unfold placeB at hpb
    rw [Bool.and_eq_true] at hpb
    obtain ⟨hjo, hal⟩ := hpb
    have hbl : (bs.length : Int) = l0.length := by have := (Kd.R_reads' HV.out).1; omega
    obtain ⟨gm, capm, em, hgb, hgl, cls, hcl⟩ := Kd.R_form HV.out (by omega)
    injection em with em e2 e3
    clear e2
    subst em
    subst e3
    obtain ⟨z9, z1⟩ := Kd.R_celln false HV.out (p : Int) hp00 hpI
    rw [Int.toNat_natCast] at z9 z1
    have z0 : wr.cell? ⟨gm, p, none⟩ = some (.bool false) := by
     rw [z9]
     unfold rdOf
     rw [Int.toNat_natCast, hnot]
    clear z9 hnot
    have hb0 : 0 ≤ behindI ts p := by
     unfold UJoin.joinedI at hjo
     simp only [Bool.and_eq_true, decide_eq_true_eq] at hjo
     exact hjo.1.1
    have hb1 : behindI ts p < (l0.length : Int) := by
     have h2 := PureJoin.behindI_range ts p
     have := HTL.out
     omega
    have HBw : Aside0 (Below w.heap.size w wr) := ⟨below_step HB1.out HB.out⟩
    have HJO := Aside0.mk hjo
    obtain ⟨b, hb⟩ : ∃ b, b = behindI ts p := ⟨_, rfl⟩
    rw [← hb] at hb0 hb1 hal
    have HBE := Aside0.mk hb
    obtain ⟨adx, cx', ex, c1⟩ := SLk.at_int H.out b hb0 hb1
    obtain ⟨adx', cx2, ex', c2⟩ := SLk.at_int H.out (p : Int) hp00 hpI
    injection ex with ex e2 e3
    clear e2 e3
    subst ex
    injection ex' with ex' e2 e3
    clear e2 e3
    obtain rfl := Option.some.inj ex'
    rw [Int.toNat_natCast] at c2
    clear ex'
    generalize rd l0 b = x at c1 hal
    generalize rd l0 (p : Int) = y at c2 hal
    have HC1 := Aside0.mk c1
    have HC2 := Aside0.mk c2
    have HGB := Aside0.mk hgb
    have HCL : Aside0 (∀ q, q ∈ (3 : Nat) :: (Kd.int .i64).E → q ≠ 4) := ⟨by decide⟩
    have HBB := Aside0.mk hb0
    have HBL := Aside0.mk hb1
    have HKL := Aside0.mk hlk
    clear hjo hb c1 c2 hgb hgl hcl hlk hk hpl hbl
    cases ha : alefB x with
    | false =>
     have HA := Aside0.mk ha
     clear ha hal
     go_upto_region 10 with (first | (go_at_call 24; refine (CJoin3.rjoined_c (SLk.below HT.out HB.out) (by have := HM.out; have := HTL.out; omega) (p : Int)).mono ?_; rintro e w8 ⟨rfl, hb⟩; rw [HJO.out]; clear z0 z1; have HV8 := Aside0.mk (Kd.R_below HV.out hb); have HR8 := Aside0.mk (Kd.R_below HR.out hb); have HB8 : Aside0 (Below w1.heap.size w1 w8) := ⟨below_step HB.out hb⟩; obtain ⟨z0, z1⟩ := Kd.R_celln false HV8.out (p : Int) hp00 hpI; rw [Int.toNat_natCast] at z0 z1; clear hb))
     obtain ⟨hp, hg⟩ := Kd.R_putg HV8.out (p : Int) true
     rw [Int.toNat_natCast] at hp hg
     obtain ⟨cls8, hcl8⟩ := Kd.R_typed HV8.out gm rfl
     have HVE := Aside0.mk hp
     have HRE := Aside0.mk (Kd.R_set HR8.out hcl8 HCL.out p (.bool true))
     have HBE2 : Aside0 (Below w1.heap.size w1 (w8.setCell ⟨gm, p, none⟩ (.bool true))) := ⟨HB8.out.setCell (p := ⟨gm, p, none⟩) HGB.out _⟩
     clear hp hg hcl8
     generalize hw9 : w8.setCell ⟨gm, p, none⟩ (.bool true) = w9 at HVE HRE HBE2
     go_upto_region 11 with (fail)
     clear hw9 z0 z1
     go_wp2_with (first | (go_at_call 26; refine (CJoin3.rbehind_c (SLk.below HT.out HBE2.out) (by have := HM.out; have := HTL.out; omega) (p : Int)).mono ?_; rintro e w10 ⟨rfl, hb⟩; rw [← HBE.out]; have HVA := Aside0.mk (Kd.R_below HVE.out hb); have HRA := Aside0.mk (Kd.R_below HRE.out hb); have HB10 : Aside0 (Below w1.heap.size w1 w10) := ⟨below_step HBE2.out hb⟩; have d1 := ((below_step HB1.out HB10.out).cell (World.block_lt_of_cell? _ _ HC1.out)).trans HC1.out; clear hb) | (go_at_call 25; refine (ligate_c x w10).mono ?_; rintro e w11 ⟨z, rfl, hb⟩; rw [HA.out]; clear d1; have HVB := Aside0.mk (Kd.R_below HVA.out hb); have HRB := Aside0.mk (Kd.R_below HRA.out hb); have HB11 : Aside0 (Below w1.heap.size w1 w11) := ⟨below_step HB10.out hb⟩; have d2 := ((below_step HB1.out HB11.out).cell (World.block_lt_of_cell? _ _ HC2.out)).trans HC2.out; clear hb))
     exact ⟨⟨k + 1, _, by go_num, by have := HKL.out; omega, HNX, HVB, HRB, HB11⟩, by have := HKL.out; simp [intOf]; omega⟩
    | true =>
     have HA := Aside0.mk ha
     have hy : ¬ y = 1604 := by rw [ha] at hal; simpa using hal
     clear ha hal
     go_upto_region 10 with (first | (go_at_call 24; refine (CJoin3.rjoined_c (SLk.below HT.out HB.out) (by have := HM.out; have := HTL.out; omega) (p : Int)).mono ?_; rintro e w8 ⟨rfl, hb⟩; rw [HJO.out]; clear z0 z1; have HV8 := Aside0.mk (Kd.R_below HV.out hb); have HR8 := Aside0.mk (Kd.R_below HR.out hb); have HB8 : Aside0 (Below w1.heap.size w1 w8) := ⟨below_step HB.out hb⟩; obtain ⟨z0, z1⟩ := Kd.R_celln false HV8.out (p : Int) hp00 hpI; rw [Int.toNat_natCast] at z0 z1; clear hb))
     obtain ⟨hp, hg⟩ := Kd.R_putg HV8.out (p : Int) true
     rw [Int.toNat_natCast] at hp hg
     obtain ⟨cls8, hcl8⟩ := Kd.R_typed HV8.out gm rfl
     have HVE := Aside0.mk hp
     have HRE := Aside0.mk (Kd.R_set HR8.out hcl8 HCL.out p (.bool true))
     have HBE2 : Aside0 (Below w1.heap.size w1 (w8.setCell ⟨gm, p, none⟩ (.bool true))) := ⟨HB8.out.setCell (p := ⟨gm, p, none⟩) HGB.out _⟩
     clear hp hg hcl8
     generalize hw9 : w8.setCell ⟨gm, p, none⟩ (.bool true) = w9 at HVE HRE HBE2
     go_upto_region 11 with (fail)
     clear hw9 z0 z1
     go_wp2_with (first | (go_at_call 26; refine (CJoin3.rbehind_c (SLk.below HT.out HBE2.out) (by have := HM.out; have := HTL.out; omega) (p : Int)).mono ?_; rintro e w10 ⟨rfl, hb⟩; rw [← HBE.out]; have HVA := Aside0.mk (Kd.R_below HVE.out hb); have HRA := Aside0.mk (Kd.R_below HRE.out hb); have HB10 : Aside0 (Below w1.heap.size w1 w10) := ⟨below_step HBE2.out hb⟩; have d1 := ((below_step HB1.out HB10.out).cell (World.block_lt_of_cell? _ _ HC1.out)).trans HC1.out; clear hb) | (go_at_call 25; refine (ligate_c x w10).mono ?_; rintro e w11 ⟨z, rfl, hb⟩; rw [HA.out]; clear d1; have HVB := Aside0.mk (Kd.R_below HVA.out hb); have HRB := Aside0.mk (Kd.R_below HRA.out hb); have HB11 : Aside0 (Below w1.heap.size w1 w11) := ⟨below_step HB10.out hb⟩; have d2 := ((below_step HB1.out HB11.out).cell (World.block_lt_of_cell? _ _ HC2.out)).trans HC2.out; clear hb))
     exact ⟨⟨k + 1, _, by go_num, by have := HKL.out; omega, HNX, HVB, HRB, HB11⟩, by have := HKL.out; simp [intOf]; omega⟩
   ·obtain rfl : k = ps.length := by omega
    have HBw : Aside0 (Below w.heap.size w wr) := ⟨below_step HB1.out HB.out⟩
    clear hlk hk
    go_wp2_with (go_at_call 13; refine KAwk.awake_c.mono ?_; rintro e w9 ⟨rfl, hb⟩; have HB9 : Aside0 (Below w.heap.size w w9) := ⟨below_step HBw.out hb⟩; clear hb)
    go_ret
    exact ⟨rfl, HB9.out⟩
end Go.Proofs.YtemhccjjcioodaaGreat
end
