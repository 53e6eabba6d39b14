/- Texts of this claim, cut to what it needs. -/
import Derived.Test.YtohhobcipfmkbaaKCGrp
import Derived.Test.YtohhobcipfmkbaaKCFin12
import Derived.Deep.Slices
import Derived.Deep.Fields
import Derived.ChangeSame
import Derived.Test.YtohhobcipfmkbaaKCFinQ
import Derived.Test.YtohhobcipfmkbaaKCCells3
import Derived.ChangeSlices
set_option linter.unusedSimpArgs false
set_option linter.unusedVariables false
section
namespace Go.Proofs.Ytohhobcipfmkbaa.CFin
open Go.RowKit Go.Maps Go.Proofs.YtohhobcipfmkbaaW.PrintWords Go.Proofs.YtohhobcipfmkbaaW.PrintMore Go.Proofs.YtohhobcipfmkbaaW.PrintLast Go.Proofs.Ytohhobcipfmkbaa.U Go.Proofs.Ytohhobcipfmkbaa.PClusterFinest Go.Proofs.Ytohhobcipfmkbaa.UFinest Go.Proofs.Ytohhobcipfmkbaa.UFinEv
theorem wrong_ok {n m : Nat} {l : List S45} (hn : 0 < n) (hm : 0 < m) (hw : wrongR n m l = 0) : (∀ x ∈ l, LinkOk n m x) ∧ ∀ i, i < m → outB l i = true := by
 unfold wrongR at hw
 split at hw
 ·cases hw
 ·split at hw
  ·rename_i h1 h2
   refine ⟨fun x hx => ?_, ?_⟩
   ·have := List.all_eq_true.1 h2 x hx
    unfold okB fitB at this
    simp only [Bool.and_eq_true, decide_eq_true_eq] at this
    exact ⟨this.1.1.1, this.1.1.2, this.1.2, this.2.1.1, this.2.1.2, this.2.2⟩
   ·unfold wrongIn at hw
    rw [if_neg (by omega), if_neg (by omega), Int.toNat_natCast] at hw
    split at hw
    ·rename_i h3
     intro i hi
     exact List.all_eq_true.1 h3 i (List.mem_range.2 hi)
    ·cases hw
  ·cases hw
theorem outB_met {m : Nat} {l : List S45} (hl : ∀ x ∈ l, 0 ≤ x.f1.f0) (hc : ∀ i, i < m → outB l i = true) (i : Nat) (hi : i < m) : ∃ x ∈ l.map lkOf, x.c ≤ i ∧ i < x.d := by
 have := hc i hi
 unfold outB at this
 obtain ⟨x, hx, h⟩ := List.any_eq_true.1 this
 simp only [Bool.and_eq_true, decide_eq_true_eq] at h
 have := hl x hx
 exact ⟨lkOf x, List.mem_map.2 ⟨x, hx, rfl⟩, by unfold lkOf; dsimp only; omega, by unfold lkOf; dsimp only; omega⟩
theorem lk_wf {n m : Nat} {l : List S45} (h : ∀ x ∈ l, LinkOk n m x) : (∀ x ∈ l.map lkOf, x.a < x.b ∧ x.c < x.d) ∧ (∀ x ∈ l.map lkOf, x.a < x.b ∧ x.b ≤ n) ∧ ∀ x ∈ l.map lkOf, x.d ≤ m := by
 have key : ∀ x ∈ l.map lkOf, (x.a < x.b ∧ x.b ≤ n) ∧ (x.c < x.d ∧ x.d ≤ m) := fun x hx => by
  obtain ⟨z, hz, rfl⟩ := List.mem_map.1 hx
  have h := h z hz
  have := h.a0; have := h.ab; have := h.bn; have := h.c0; have := h.cd; have := h.dm
  unfold lkOf; dsimp only; omega
 exact ⟨fun x hx => ⟨(key x hx).1.1, (key x hx).2.1⟩, fun x hx => (key x hx).1, fun x hx => (key x hx).2.2⟩
theorem first_lt {n m : Nat} {l : List S45} (hn : 0 < n) (hm : 0 < m) (h : ∀ x ∈ l, LinkOk n m x) (hc : ∀ i, i < m → outB l i = true) : firstF (l.map lkOf) n < n := by
 obtain ⟨x, hx, _, _⟩ := outB_met (fun x hx => (h x hx).c0) hc 0 hm
 have hw := (lk_wf h).2.1 x hx
 unfold firstF
 have := List.findIdx_lt_length_of_exists (xs := List.range n) (p := linkedB (l.map lkOf)) ⟨x.a, List.mem_range.2 (by omega), by
  unfold linkedB
  rw [List.any_eq_true]
  exact ⟨x, hx, by simp; omega⟩⟩
 simpa using this
theorem labOk_linkF {n N : Nat} {r : Lab} (h : LabOk N r) (x : Lk) (h1 : x.a < x.b) (h2 : x.b ≤ n) (h3 : x.c < x.d) (h4 : n + x.d ≤ N) : LabOk N (linkF n r x) := by
 unfold linkF
 exact (labOk_allF (labOk_allF h _ _ (by omega)) _ _ (by omega)).merge _ _ (by omega) (by omega)
theorem labOk_links {n N : Nat} (l : List Lk) (hl : ∀ x ∈ l, x.a < x.b ∧ x.b ≤ n ∧ x.c < x.d ∧ n + x.d ≤ N) : ∀ r, LabOk N r → LabOk N (linksF n r l) := by
 induction l with
 | nil => intro r h; exact h
 | cons x l ih =>
  intro r h
  obtain ⟨h1, h2, h3, h4⟩ := hl x List.mem_cons_self
  exact ih (fun y hy => hl y (List.mem_cons_of_mem _ hy)) _ (labOk_linkF h x h1 h2 h3 h4)
theorem labOk_stray {n N : Nat} (l : List Lk) (hf : firstF l n < n) (hN : n ≤ N) (k : Nat) (hk : k ≤ n) : ∀ r, LabOk N r → LabOk N (strayF l n r k) := by
 induction k with
 | zero => intro r h; exact h
 | succ k ih =>
  intro r h
  have h := ih (by omega) r h
  show LabOk N (if linkedB l k then strayF l n r k else if firstF l n < k then merge (strayF l n r k) (k - 1) k else merge (strayF l n r k) k (k + 1))
  split
  ·exact h
  ·rename_i h0
   split
   ·exact h.merge _ _ (by omega) (by omega)
   ·refine h.merge _ _ (by omega) ?_
    rename_i h1
    have : k ≠ firstF l n := fun e => h0 (by rw [e]; exact first_linked l n hf)
    omega
set_option maxRecDepth 100000 in
set_option maxHeartbeats 2000000 in
theorem finest_bad {w : World} {v : Value} {l : List S45} (n m : Int) (h : SLk k45 w v l) (hl : l.length ≤ 1000000) (hb : wrongR n m l ≠ 0 ∨ n = 0) :
 Calls Try.prog 32 #[.int .i64 n, .int .i64 m, v] w fun e w' => e = .returned (.tuple #[.slice none 0 0, .int .i64 (wrongR n m l)]) ∧ Below w.heap.size w w' := by
 have H := Aside0.mk h
 obtain ⟨A, c, rfl, _, _⟩ := h
 obtain ⟨r, hr⟩ : ∃ r, r = wrongR n m l := ⟨_, rfl⟩
 rw [← hr] at hb ⊢
 have HR := Aside0.mk hr; clear hr
 go_enter Try.func32, Try.ntmps32
 by_cases h0 : r = 0
 ·subst h0
  obtain rfl : n = 0 := by rcases hb with h | h; exact absurd rfl h; exact h
  clear hb
  go_wp2_with (go_at_call 58; refine (may_c 0 m H.out hl).mono ?_; rintro e w1 ⟨rfl, hb1⟩; rw [← HR.out]; have HB1 := Aside0.mk hb1; clear hb1)
  refine bodyPost_ret (results_tmp2 rfl _ _ _) rfl ?_
  exact ⟨rfl, HB1.out⟩
 ·clear hb
  go_wp2_with (go_at_call 58; refine (may_c n m H.out hl).mono ?_; rintro e w1 ⟨rfl, hb1⟩; rw [← HR.out]; have HB1 := Aside0.mk hb1; clear hb1)
  refine bodyPost_ret (results_tmp2 rfl _ _ _) rfl ?_
  exact ⟨rfl, HB1.out⟩
set_option maxRecDepth 100000 in
set_option maxHeartbeats 2000000 in
theorem finest_c {w : World} {v : Value} {l : List S45} (n m : Nat) (h : SLk k45 w v l) (hl : l.length ≤ 5000) (hn : 0 < n) (hm : 0 < m) (hnm : n + m ≤ 1000) (hw : wrongR n m l = 0) :
 Calls Try.prog 32 #[.int .i64 n, .int .i64 m, v] w fun e w' => ∃ (u : Value) (L : Lab), e = .returned (.tuple #[u, .int .i64 0]) ∧ FinOk n m (l.map lkOf) L ∧ Kd.R k45 45 w' w.heap.size (fun _ => True) u (cluS n m L n) ∧ Below w.heap.size w w' := by
 have H := Aside0.mk h
 obtain ⟨A, c, rfl, hcc, hC⟩ := h
 have HC := Aside0.mk hC
 have HW := Aside0.mk hw
 obtain ⟨hlk, hcov⟩ := wrong_ok hn hm hw
 have HLK := Aside0.mk hlk
 have HCOV := Aside0.mk hcov
 have HF := Aside0.mk (first_lt hn hm hlk hcov)
 obtain ⟨N, hN⟩ : ∃ N, N = n + m := ⟨_, rfl⟩
 have e0 : IntKind.i64.wrap ((n : Int) + (m : Int)) = (N : Int) := by rw [IntWalk.i64_in _ (by omega)]; omega
 have hn0 : ¬ (n : Int) = 0 := by omega
 have hNN : N ≤ 1000 := by omega
 have HNM := Aside0.mk hN
 clear hw hlk hcov hC hcc hnm hN
 go_enter Try.func32, Try.ntmps32
 go_wp2_with (first | (go_at_call 58; refine (may_c n m H.out (by omega)).mono ?_; rintro e w1 ⟨rfl, hb1⟩; rw [HW.out]; have HB1 := Aside0.mk hb1; clear hb1) | (go_at_call 59; refine (alone_c N (by omega)).mono ?_; rintro e w2 ⟨g, cap, p, rfl, a1, a2, a3⟩; have HV2 := Aside0.mk a1; have HP2 := Aside0.mk a2; have HGB := Aside0.mk (Nat.le_trans HB1.out.size a1.lt); have HB2 : Aside0 (Below w.heap.size w w2) := ⟨below_step HB1.out a3⟩; clear a1 a2 a3 HB1) | ((with_reducible refine gate_dst (N := 35) rfl ?_); refine box_event ?hg (N := 35) ?hd (cs := #[.slice (some ⟨g, 0, none⟩) N cap, .int .i64 n, .int .i64 m]) (t := 87) ?hr ?_; (case hd => rfl); (case hg => rfl); (case hr => first | (go_simp; done) | (go_simp; rfl)); intro B hg w3 hbox hb; have HW3 : Aside0 (WV w3 B g n m N cap) := ⟨hbox⟩; have HV3 := Aside0.mk (HV2.out.below hb); have HNE : Aside0 (B ≠ g) := ⟨by have := HV2.out.ltw; omega⟩; have HBB : Aside0 (w.heap.size ≤ B) := ⟨by rw [hg]; exact HB2.out.size⟩; have HB3 : Aside0 (Below w.heap.size w w3) := ⟨below_step HB2.out hb⟩; clear hg hbox hb HV2 HB2))
 obtain ⟨w2base, hwb⟩ : ∃ b, b = w1.heap.size := ⟨_, rfl⟩
 rw [← hwb] at HV3
 clear hwb
 go_loopw [38] (fun v wr => ∃ (k : Nat) (p : List Int), v = .int .i64 (k : Int) ∧ k ≤ l.length ∧ Aside0 (WV wr B g n m N cap) ∧ Aside0 (LI wr w2base g N cap p) ∧ Aside0 (PF N (linksF n idL ((l.take k).map lkOf)) p) ∧ Aside0 (Below w.heap.size w wr)) (fun v _ => l.length - (intOf v).toNat)
 case atStart => exact ⟨0, p, rfl, Nat.zero_le _, HW3, HV3, HP2, HB3⟩
 case round =>
  clear HW3 HV3 HP2 HB3
  obtain ⟨k, p, rfl, hk, HW, HV, HP, HB⟩ := hrel
  have HO : Aside0 (LabOk N (linksF n idL ((l.take k).map lkOf))) := ⟨labOk_links _ (fun x hx => by
   obtain ⟨z, hz, rfl⟩ := List.mem_map.1 hx
   have hz' := List.mem_of_mem_take hz
   have hk1 := (lk_wf HLK.out).2.1 _ (List.mem_map.2 ⟨z, hz', rfl⟩)
   have hk2 := (lk_wf HLK.out).1 _ (List.mem_map.2 ⟨z, hz', rfl⟩)
   have hk3 := (lk_wf HLK.out).2.2 _ (List.mem_map.2 ⟨z, hz', rfl⟩)
   have := HNM.out
   exact ⟨hk1.1, hk1.2, hk2.2, by omega⟩) _ (labOk_id N)⟩
  by_cases hlt : k < l.length
  ·obtain ⟨ad, ead, c0, c1, c2, c3⟩ := at_T45 (Kd.C_below HC.out HB.out) (k : Int) (by omega) (by omega)
   rw [rd45 hlt, Int.toNat_natCast] at c0 c1 c2 c3
   have hx := HLK.out _ (List.getElem_mem hlt)
   obtain ⟨a, ha⟩ : ∃ a : Nat, l[k].f0.f0 = (a : Int) := ⟨l[k].f0.f0.toNat, by have := hx.a0; omega⟩
   obtain ⟨b, hb⟩ : ∃ b : Nat, l[k].f0.f1 = (b : Int) := ⟨l[k].f0.f1.toNat, by have := hx.a0; have := hx.ab; omega⟩
   obtain ⟨d, hd⟩ : ∃ d : Nat, l[k].f1.f0 = (d : Int) := ⟨l[k].f1.f0.toNat, by have := hx.c0; omega⟩
   obtain ⟨e, he⟩ : ∃ e : Nat, l[k].f1.f1 = (e : Int) := ⟨l[k].f1.f1.toNat, by have := hx.c0; have := hx.cd; omega⟩
   have k1 := hx.ab; have k2 := hx.bn; have k3 := hx.cd; have k4 := hx.dm
   rw [ha] at c0 k1; rw [hb] at c1 k1 k2; rw [hd] at c2 k3; rw [he] at c3 k3 k4
   have HLE : Aside0 (linksF n idL ((l.take (k + 1)).map lkOf) = linkF n (linksF n idL ((l.take k).map lkOf)) ⟨a, b, d, e⟩) := ⟨by
    rw [List.take_succ_eq_append_getElem hlt, List.map_append]
    unfold linksF
    rw [List.foldl_append]
    have : lkOf l[k] = ⟨a, b, d, e⟩ := by unfold lkOf; rw [ha, hb, hd, he]; rfl
    simp [this]⟩
   have hkI : (k : Int) < (l.length : Int) := by omega
   have q1 : a < b := by omega
   have q2 : b ≤ n := by omega
   have q3 : d < e := by omega
   have q4 : e ≤ m := by omega
   subst ead
   clear hx ha hb hd he k1 k2 k3 k4
   go_upto_region 8 with (first | ((with_reducible refine gate_dst (N := 11) rfl ?_); refine box_event ?hg (N := 11) ?hd (cs := #[.int .i64 0, .int .i64 0, .int .i64 0, .int .i64 0]) (t := 45) ?hr ?_; (case hd => rfl); (case hg => rfl); (case hr => first | (go_simp; done) | (go_simp; rfl)); intro gb hg w6 hbox hb; have HX6 := Aside0.mk hbox; have HGE : Aside0 (w.heap.size ≤ gb) := ⟨by rw [hg]; exact HB.out.size⟩; have HN1 : Aside0 (g ≠ gb) := ⟨by have := HV.out.ltw; omega⟩; have HN2 : Aside0 (B ≠ gb) := ⟨by have := blk_lt HW.out; omega⟩; have HB6 : Aside0 (Below w.heap.size w w6) := ⟨below_step HB.out hb⟩; have HV6 : Aside0 (LI w6 w2base g N cap p) := ⟨HV.out.below hb⟩; have HW6 : Aside0 (WV w6 B g n m N cap) := ⟨HW.out.below hb⟩; have z0 : w6.cell? ⟨gb, 0, none⟩ = some (.int .i64 0) := (blk_cell hbox 0).trans rfl; have z1 : w6.cell? ⟨gb, 1, none⟩ = some (.int .i64 0) := (blk_cell hbox 1).trans rfl; have z2 : w6.cell? ⟨gb, 2, none⟩ = some (.int .i64 0) := (blk_cell hbox 2).trans rfl; have z3 : w6.cell? ⟨gb, 3, none⟩ = some (.int .i64 0) := (blk_cell hbox 3).trans rfl; have f0 := blk_frozen hbox 0; have f1 := blk_frozen hbox 1; have f2 := blk_frozen hbox 2; have f3 := blk_frozen hbox 3; clear hg hbox hb HB HV HW))
   have HX := Aside0.mk (blk_put (blk_put (blk_put (blk_put HX6.out 0 (.int .i64 a) rfl) 1 (.int .i64 b) rfl) 2 (.int .i64 d) rfl) 3 (.int .i64 e) rfl)
   have HG7 := Aside0.mk (World.grownBy.trans (World.grownBy.trans (World.grownBy.trans (grown_set w6 gb 0 (.int .i64 a)) (grown_set _ gb 1 (.int .i64 b))) (grown_set _ gb 2 (.int .i64 d))) (grown_set _ gb 3 (.int .i64 e)))
   generalize (((w6.setCell ⟨gb, 0, none⟩ (.int .i64 a)).setCell ⟨gb, 1, none⟩ (.int .i64 b)).setCell ⟨gb, 2, none⟩ (.int .i64 d)).setCell ⟨gb, 3, none⟩ (.int .i64 e) = w7 at HX HG7 ⊢
   have HV7 : Aside0 (LI w7 w2base g N cap p) := ⟨HV6.out.grown HG7.out HN1.out⟩
   have HW7 : Aside0 (WV w7 B g n m N cap) := ⟨HW6.out.grown HG7.out HN2.out⟩
   have HB7 : Aside0 (Below w.heap.size w w7) := ⟨HB6.out.grown HG7.out HB6.out.size (fun j hj => by obtain rfl := Option.some.inj hj; exact HGE.out)⟩
   have q0' := (blk_cell HX.out 0).trans rfl
   have q1' := (blk_cell HX.out 1).trans rfl
   have q2' := (blk_cell HX.out 2).trans rfl
   have q3' := (blk_cell HX.out 3).trans rfl
   clear z0 z1 z2 z3 f0 f1 f2 f3 HX6 HB6 HV6 HW6 c0 c1 c2 c3
   go_wp2_with (first | (go_at_call 60; refine (link_c HW7.out HV7.out HNE.out HP.out HO.out (by omega) ⟨a, b, d, e⟩ q1 q2 q3 q4 HNM.out.symm).mono ?_; rintro e8 w8 ⟨rfl, p8, a1, a2, a3⟩; have HV8 := Aside0.mk a1; have HP8 := Aside0.mk a2; have HG8 := Aside0.mk a3; clear a1 a2 a3))
   exact ⟨⟨k + 1, p8, by go_num, by omega, ⟨HW7.out.grown HG8.out HNE.out⟩, HV8, ⟨by rw [HLE.out]; exact HP8.out⟩, ⟨HB7.out.grown HG8.out HB7.out.size (fun j hj => by obtain rfl := Option.some.inj hj; exact HGB.out)⟩⟩, by simp [intOf]; omega⟩
  ·have ek : k = l.length := by omega
   subst ek
   rw [List.take_length] at HP HO
   obtain ⟨r0, hr0⟩ : ∃ r0, r0 = strayF (l.map lkOf) n (linksF n idL (l.map lkOf)) n := ⟨_, rfl⟩
   have HO5 : Aside0 (LabOk N r0) := ⟨by rw [hr0]; exact labOk_stray _ HF.out (by have := HNM.out; omega) n (Nat.le_refl _) _ HO.out⟩
   have HR0 := Aside0.mk hr0
   clear hr0 hlt
   have HCW : Aside0 (Kd.C k45 wr A l.length l) := ⟨Kd.C_below HC.out HB.out⟩
   have e5 : IntKind.i64.wrap ((n : Int) + (m : Int)) = (N : Int) := e0
   go_wp2_with (first | (go_at_call 61; refine (stray_c HW.out HV.out HNE.out HP.out HO.out (by omega) HNM.out.symm hm HCW.out hl HLK.out HF.out).mono ?_; rintro e8 w5 ⟨rfl, p5, a1, a2, a3⟩; rw [← HR0.out] at a2; have HV5 := Aside0.mk a1; have HP5 := Aside0.mk a2; have HW5 := Aside0.mk (HW.out.grown a3 HNE.out); have HB5 : Aside0 (Below w.heap.size w w5) := ⟨HB.out.grown a3 HB.out.size (fun j hj => by obtain rfl := Option.some.inj hj; exact HGB.out)⟩; clear a1 a2 a3 HV HP HW HB HCW HO) | ((with_reducible refine gate_dst (N := 12) rfl ?_); refine box_event ?hg (N := 12) ?hd (cs := #[.int .i64 0, .int .i64 0]) (t := 33) ?hr ?_; (case hd => rfl); (case hg => rfl); (case hr => first | (go_simp; done) | (go_simp; rfl)); intro gi hgi w6 hbox hb; have HI6 := Aside0.mk hbox; have HV6 := Aside0.mk (HV5.out.below hb); have HW6 := Aside0.mk (HW5.out.below hb); have HB6 : Aside0 (Below w.heap.size w w6) := ⟨below_step HB5.out hb⟩; have HGI : Aside0 (g ≠ gi ∧ B ≠ gi ∧ w.heap.size ≤ gi) := ⟨by have := HV5.out.ltw; omega, by have := blk_lt HW5.out; omega, by rw [hgi]; exact HB5.out.size⟩; clear hgi hbox hb HV5 HW5 HB5) | ((with_reducible refine gate_dst (N := 13) rfl ?_); refine box_event ?hg (N := 13) ?hd (cs := #[.int .i64 0, .int .i64 0]) (t := 33) ?hr ?_; (case hd => rfl); (case hg => rfl); (case hr => first | (go_simp; done) | (go_simp; rfl)); intro go hgo w7 hbox hb; have HO7 := Aside0.mk hbox; have HI7 : Aside0 (w7.heap[gi]? = some (.cells #[.int .i64 0, .int .i64 0] 33 (0, 0))) := ⟨(hb.block _ (blk_lt HI6.out)).trans HI6.out⟩; have HV7 := Aside0.mk (HV6.out.below hb); have HW7 := Aside0.mk (HW6.out.below hb); have HB7 : Aside0 (Below w.heap.size w w7) := ⟨below_step HB6.out hb⟩; have HGO : Aside0 (g ≠ go ∧ B ≠ go ∧ w.heap.size ≤ go ∧ gi ≠ go) := ⟨by have := HV6.out.ltw; omega, by have := blk_lt HW6.out; omega, by rw [hgo]; exact HB6.out.size, by have := blk_lt HI6.out; omega⟩; have z0 := (blk_cell HI7.out 0).trans rfl; have z1 := (blk_cell HI7.out 1).trans rfl; have f0 := blk_frozen HI7.out 0; have f1 := blk_frozen HI7.out 1; have y0 := (blk_cell hbox 0).trans rfl; have y1 := (blk_cell hbox 1).trans rfl; have g0 := blk_frozen hbox 0; have g1 := blk_frozen hbox 1; have hgio : ¬ gi = go := HGO.out.2.2.2; have hgoi : ¬ go = gi := fun e => hgio e.symm; clear hgo hbox hb HV6 HW6 HB6 HI6))
   have hI8 := blk_put (blk_put HI7.out 0 (.int .i64 0) rfl) 1 (.int .i64 n) rfl
   have hG78 := World.grownBy.trans (grown_set w7 gi 0 (.int .i64 0)) (grown_set _ gi 1 (.int .i64 n))
   have hO8 := (hG78.block go (blk_lt HO7.out) (fun e => hgoi (Option.some.inj e))).trans HO7.out
   have hV8 := HV7.out.grown hG78 HGI.out.1
   have hW8 := HW7.out.grown hG78 HGI.out.2.1
   have hB8 : Below w.heap.size w _ := HB7.out.grown hG78 HB7.out.size (fun j hj => by obtain rfl := Option.some.inj hj; exact HGI.out.2.2)
   generalize (w7.setCell ⟨gi, 0, none⟩ (.int .i64 0)).setCell ⟨gi, 1, none⟩ (.int .i64 n) = w8 at hI8 hO8 hV8 hW8 hB8 ⊢
   have hO9 := blk_put (blk_put hO8 0 (.int .i64 n) rfl) 1 (.int .i64 N) rfl
   have hG89 := World.grownBy.trans (grown_set w8 go 0 (.int .i64 n)) (grown_set _ go 1 (.int .i64 N))
   have HO9 := Aside0.mk hO9
   have HI9 := Aside0.mk ((hG89.block gi (blk_lt hI8) (fun e => hgio (Option.some.inj e))).trans hI8)
   have HV9 := Aside0.mk (hV8.grown hG89 HGO.out.1)
   have HW9 := Aside0.mk (hW8.grown hG89 HGO.out.2.1)
   have HB9 : Aside0 (Below w.heap.size w _) := ⟨hB8.grown hG89 hB8.size (fun j hj => by obtain rfl := Option.some.inj hj; exact HGO.out.2.2.1)⟩
   clear hI8 hG78 hO8 hV8 hW8 hB8 hO9 hG89 z0 z1 f0 f1 y0 y1 g0 g1 HO7 HI7 HV7 HW7 HB7
   generalize (w8.setCell ⟨go, 0, none⟩ (.int .i64 n)).setCell ⟨go, 1, none⟩ (.int .i64 N) = w9 at HO9 HI9 HV9 HW9 HB9 ⊢
   go_loopg [14] (sumL r0 N + 1) (fun kq v14 wr => ∃ (r : Lab) (p : List Int) (b : Bool), v14 = .bool b ∧ Aside0 ((if b then sumL r N + 1 else 0) ≤ kq) ∧ Aside0 (if b then endF n m r = endF n m r0 else r = endF n m r0) ∧ Aside0 (wr.heap[gi]? = some (.cells #[.int .i64 0, .int .i64 n] 33 (0, 0))) ∧ Aside0 (wr.heap[go]? = some (.cells #[.int .i64 n, .int .i64 N] 33 (0, 0))) ∧ Aside0 (LI wr w2base g N cap p) ∧ Aside0 (WV wr B g n m N cap) ∧ Aside0 (PF N r p) ∧ Aside0 (LabOk N r) ∧ Aside0 (Below w.heap.size w wr))
   case atStart => exact ⟨r0, p5, true, rfl, ⟨Nat.le_refl _⟩, ⟨rfl⟩, HI9, HO9, HV9, HW9, HP5, HO5, HB9⟩
   case round =>
    clear HI9 HO9 HV9 HW9 HP5 HO5 HB9
    obtain ⟨r, p, b, rfl, HK, HE, HI, HO, HV, HW, HP, HL, HB⟩ := hrel
    cases b with
    | false =>
     have her : r = finL n m (l.map lkOf) := by rw [show r = endF n m r0 from HE.out, HR0.out]; rfl
     have hcl : Closed n m (l.map lkOf) (fun x y => r x = r y) := by rw [her]; exact finL_closed hn hm (lk_wf HLK.out).1 HF.out
     have hfo : FinOk n m (l.map lkOf) r := ⟨fun R hR => by rw [her]; exact finL_sound hR (lk_wf HLK.out).1 HF.out, hcl⟩
     have HFO := Aside0.mk hfo
     have HBT : Aside0 (Between (fun x y => r x = r y) 0 n) := ⟨fun i j k _ h1 h2 h3 h4 => hcl.conv1 i j k h1 h2 h3 h4⟩
     have HOT : Aside0 (∀ j, j < n → ∃ i, i < m ∧ r (n + i) = r j) := ⟨fun j hj => outs_met hcl (lk_wf HLK.out).1 (lk_wf HLK.out).2.2 HF.out j hj⟩
     have HIN : Aside0 (∀ i, i < m → ∃ j, j < n ∧ r j = r (n + i)) := ⟨fun i hi => ins_met hcl (lk_wf HLK.out).2.1 (outB_met (fun x hx => (HLK.out x hx).c0) HCOV.out) i hi⟩
     clear her hcl hfo HE HK
     go_wp2_with (first | (go_at_call 63; refine (clusters_c HW.out HV.out HNE.out HP.out HL.out hNN HNM.out.symm hn HBT.out HOT.out HIN.out).mono ?_; rintro e8 wf ⟨u, rfl, a1, a2⟩; have HRF := Aside0.mk a1; have HGF := Aside0.mk a2; clear a1 a2))
     refine bodyPost_ret (results_tmp2 rfl _ _ _) rfl ?_
     exact ⟨u, r, rfl, HFO.out, Kd.R_lower HRF.out HB.out.size, HB.out.grown HGF.out HB.out.size (fun j hj => by obtain rfl := Option.some.inj hj; exact HGB.out)⟩
    | true =>
     have hk : sumL r N + 1 ≤ gk := HK.out
     have hend : endF n m r = endF n m r0 := HE.out
     have HK := Aside0.mk hk
     have HEN := Aside0.mk hend
     have HST := Aside0.mk (endF_step n m hn hm r)
     have HSM := Aside0.mk (roundF_sum n m hn hm r)
     rw [← HNM.out] at HSM
     obtain ⟨q1, hq1⟩ : ∃ q, q = closeF r 0 n := ⟨_, rfl⟩
     obtain ⟨q2, hq2⟩ : ∃ q, q = closeF q1.1 n N := ⟨_, rfl⟩
     have HRF : Aside0 (roundF n m r = (q2.1, q1.2 || q2.2)) := ⟨by unfold roundF; rw [hq2, hq1, HNM.out]⟩
     have HQ1 := Aside0.mk hq1
     have HQ2 := Aside0.mk hq2
     have HL1 : Aside0 (LabOk N q1.1) := ⟨by rw [hq1]; exact labOk_closeF 0 n hn (by have := HNM.out; omega) HL.out⟩
     have HL2 : Aside0 (LabOk N q2.1) := ⟨by rw [hq2]; exact labOk_closeF n N (by have := HNM.out; omega) (Nat.le_refl _) HL1.out⟩
     have hnN : n < N := by have := HNM.out; omega
     have HNN := Aside0.mk hnN
     clear hk hend hq1 hq2
     go_wp2_with fail
     refine start_ (n := 8) (S := (fun W => W.heap[gi]? = some (.cells #[.int .i64 0, .int .i64 n] 33 (0, 0)) ∧ W.heap[go]? = some (.cells #[.int .i64 n, .int .i64 N] 33 (0, 0)))) (ds := [5]) #[false, false, false, false, false, false, false, false] (by kernel_rfl) (by kernel_rfl) (by rfl) ⟨HI.out, HO.out⟩ (fun hS0 => ?_)
     refine pure_ (i := 0) (N := (some 57)) (v := ?_) (a' := ?_) #[true, false, false, false, false, false, false, false] rfl rfl (by kernel_rfl) (fun _ _ _ h => h) (Or.inl ⟨by rfl, ?_⟩) ?_ ?_
     rotate_left
     ·intro w'
      go_simp
      with_reducible rfl
     rotate_left
     ·simp only [Act.put, List.setIfInBounds_toArray, List.set_cons_zero, List.set_cons_succ]
      rfl
     refine take_ (i := 1) (N := (some 58)) (v := ?_) (a' := ?_) #[true, true, false, false, false, false, false, false] rfl rfl (by kernel_rfl) (fun _ _ _ h => h) (Or.inl ⟨by rfl, ?_⟩) hS0 ?_ ?_
     rotate_left
     ·intro w' s0
      have q0 := (blk_cell s0.1 0).trans rfl
      have q1 := (blk_cell s0.1 1).trans rfl
      go_simp
      with_reducible rfl
     rotate_left
     ·simp only [Act.put, List.setIfInBounds_toArray, List.set_cons_zero, List.set_cons_succ]
      rfl
     refine pure_ (i := 3) (N := (some 60)) (v := ?_) (a' := ?_) #[true, true, false, true, false, false, false, false] rfl rfl (by kernel_rfl) (fun _ _ _ h => h) (Or.inl ⟨by rfl, ?_⟩) ?_ ?_
     rotate_left
     ·intro w'
      go_simp
      with_reducible rfl
     rotate_left
     ·simp only [Act.put, List.setIfInBounds_toArray, List.set_cons_zero, List.set_cons_succ]
      rfl
     refine take_ (i := 4) (N := (some 61)) (v := ?_) (a' := ?_) #[true, true, false, true, true, false, false, false] rfl rfl (by kernel_rfl) (fun _ _ _ h => h) (Or.inl ⟨by rfl, ?_⟩) hS0 ?_ ?_
     rotate_left
     ·intro w' s0
      have q0 := (blk_cell s0.2 0).trans rfl
      have q1 := (blk_cell s0.2 1).trans rfl
      go_simp
      with_reducible rfl
     rotate_left
     ·simp only [Act.put, List.setIfInBounds_toArray, List.set_cons_zero, List.set_cons_succ]
      rfl
     clear hS0
     refine one_ (i := 2) (N := (some 59)) #[true, true, true, true, true, false, false, false] rfl rfl (by kernel_rfl) (by decide) (fun K hK => ?_)
     refine goes_ Try.func62 (by kernel_rfl) rfl #[.pointer (some ⟨B, 0, none⟩), .agg #[.int .i64 ((0 : Nat) : Int), .int .i64 n]] (by rfl) rfl rfl (by go_simp; done) ?_
     refine (close_c (w := wr.drew) HW.out (Kd.R_drew HV.out) HNE.out HP.out HL.out (by omega) 0 n hn (by omega)).mono ?_
     rintro e8 wa ⟨rfl, pa, a1, a2, a3⟩
     refine ⟨_, rfl, ?_⟩
     rw [← HQ1.out] at a2 ⊢
     have HVa := Aside0.mk a1
     have HPa := Aside0.mk a2
     have HGa : Aside0 (wr.grownBy wa (some g)) := ⟨World.grownBy.trans (below_grownBy (below_drew (Below.refl _ _)) _) a3⟩
     clear a1 a2 a3
     obtain ⟨b1, hb1⟩ : ∃ b, q1.2 = b := ⟨_, rfl⟩
     have HB1 := Aside0.mk hb1
     rw [hb1]
     clear hb1
     have hIa := (HGa.out.block gi (blk_lt HI.out) (fun e => HGI.out.1 (Option.some.inj e).symm)).trans HI.out
     have hOa := (HGa.out.block go (blk_lt HO.out) (fun e => HGO.out.1 (Option.some.inj e).symm)).trans HO.out
     have HIa := Aside0.mk hIa
     have HOa := Aside0.mk hOa
     clear hIa hOa
     change K (Act.put _ (some 59) _) _
     refine hK.out _ _ ⟨HIa.out, HOa.out⟩ (fun hS0 => ?_)
     clear hK
     refine norm_ (a' := ?_) ?_ ?_
     rotate_left
     ·simp only [Act.put, List.setIfInBounds_toArray, List.set_cons_zero, List.set_cons_succ]
      rfl
     clear hS0
     refine last_ (i := 5) (N := (some 62)) #[true, true, true, true, true, true, false, false] rfl rfl (by kernel_rfl) (by decide) (fun K hK => ?_)
     refine goes_ Try.func62 (by kernel_rfl) rfl #[.pointer (some ⟨B, 0, none⟩), .agg #[.int .i64 n, .int .i64 N]] (by rfl) rfl rfl (by go_simp; done) ?_
     refine (close_c (HW.out.grown HGa.out HNE.out) HVa.out HNE.out HPa.out HL1.out (by omega) n N hnN (Nat.le_refl _)).mono ?_
     rintro e8 wb ⟨rfl, pb, a1, a2, a3⟩
     refine ⟨_, rfl, ?_⟩
     rw [← HQ2.out] at a2 ⊢
     have HVb := Aside0.mk a1
     have HPb := Aside0.mk a2
     have HGb : Aside0 (wr.grownBy wb (some g)) := ⟨World.grownBy.trans HGa.out a3⟩
     clear a1 a2 a3
     obtain ⟨b2, hb2⟩ : ∃ b, q2.2 = b := ⟨_, rfl⟩
     have HB2 := Aside0.mk hb2
     rw [hb2]
     clear hb2
     change K (Act.put _ (some 62) _) _
     refine hK.out _ _ ?_
     clear hK
     refine norm_ (a' := ?_) ?_ ?_
     rotate_left
     ·simp only [Act.put, List.setIfInBounds_toArray, List.set_cons_zero, List.set_cons_succ]
      rfl
     refine pure_ (i := 6) (N := (some 15)) (v := ?_) (a' := ?_) #[true, true, true, true, true, true, true, false] rfl rfl (by kernel_rfl) (fun _ _ _ h => h) (Or.inl ⟨by rfl, ?_⟩) ?_ ?_
     rotate_left
     ·intro w'
      go_simp
      with_reducible rfl
     rotate_left
     ·simp only [Act.put, List.setIfInBounds_toArray, List.set_cons_zero, List.set_cons_succ]
      rfl
     refine pure_ (i := 7) (N := (some 16)) (v := ?_) (a' := ?_) #[true, true, true, true, true, true, true, true] rfl rfl (by kernel_rfl) (fun _ _ _ h => h) (Or.inl ⟨by rfl, ?_⟩) ?_ ?_
     rotate_left
     ·intro w'
      go_simp
      with_reducible rfl
     rotate_left
     ·simp only [Act.put, List.setIfInBounds_toArray, List.set_cons_zero, List.set_cons_succ]
      rfl
     refine done_ (by kernel_rfl) ?_
     have HRB : Aside0 (roundF n m r = (q2.1, b1 || b2)) := ⟨by rw [HRF.out, HB1.out, HB2.out]⟩
     cases b1 with
     | true =>
      go_wp2_with fail
      have hsm := HSM.out.2 (by rw [HRB.out]; rfl)
      rw [HRB.out] at hsm
      have hst := HST.out
      rw [HRB.out] at hst
      have hst2 : endF n m r = endF n m q2.1 := hst
      dsimp only at hsm
      have HHK : Aside0 ((if true then sumL q2.1 N + 1 else 0) ≤ sumL q2.1 N + 1) := ⟨Nat.le_refl _⟩
      have HHE : Aside0 (if true then endF n m q2.1 = endF n m r0 else q2.1 = endF n m r0) := ⟨hst2.symm.trans HEN.out⟩
      have hkk : sumL r N + 1 ≤ gk := by have := HK.out; simpa using this
      clear hst hst2
      go_roundg (sumL q2.1 N + 1)
      case measure => omega
      case rel => exact ⟨q2.1, pb, true, rfl, HHK, HHE, ⟨(HGb.out.block gi (blk_lt HI.out) (fun e => HGI.out.1 (Option.some.inj e).symm)).trans HI.out⟩, ⟨(HGb.out.block go (blk_lt HO.out) (fun e => HGO.out.1 (Option.some.inj e).symm)).trans HO.out⟩, HVb, ⟨HW.out.grown HGb.out HNE.out⟩, HPb, HL2, ⟨HB.out.grown HGb.out HB.out.size (fun j hj => by obtain rfl := Option.some.inj hj; exact HGB.out)⟩⟩
     | false =>
      cases b2 with
      | true =>
       go_wp2_with fail
       have hsm := HSM.out.2 (by rw [HRB.out]; rfl)
       rw [HRB.out] at hsm
       have hst := HST.out
       rw [HRB.out] at hst
       have hst2 : endF n m r = endF n m q2.1 := hst
       dsimp only at hsm
       have HHK : Aside0 ((if true then sumL q2.1 N + 1 else 0) ≤ sumL q2.1 N + 1) := ⟨Nat.le_refl _⟩
       have HHE : Aside0 (if true then endF n m q2.1 = endF n m r0 else q2.1 = endF n m r0) := ⟨hst2.symm.trans HEN.out⟩
       have hkk : sumL r N + 1 ≤ gk := by have := HK.out; simpa using this
       clear hst hst2
       go_roundg (sumL q2.1 N + 1)
       case measure => omega
       case rel => exact ⟨q2.1, pb, true, rfl, HHK, HHE, ⟨(HGb.out.block gi (blk_lt HI.out) (fun e => HGI.out.1 (Option.some.inj e).symm)).trans HI.out⟩, ⟨(HGb.out.block go (blk_lt HO.out) (fun e => HGO.out.1 (Option.some.inj e).symm)).trans HO.out⟩, HVb, ⟨HW.out.grown HGb.out HNE.out⟩, HPb, HL2, ⟨HB.out.grown HGb.out HB.out.size (fun j hj => by obtain rfl := Option.some.inj hj; exact HGB.out)⟩⟩
      | false =>
       go_wp2_with fail
       have hst := HST.out
       rw [HRB.out] at hst
       have hst2 : endF n m r = q2.1 := hst
       have HHK : Aside0 ((if false then sumL q2.1 N + 1 else 0) ≤ 0) := ⟨Nat.le_refl _⟩
       have HHE : Aside0 (if false then endF n m q2.1 = endF n m r0 else q2.1 = endF n m r0) := ⟨hst2.symm.trans HEN.out⟩
       have hkk : sumL r N + 1 ≤ gk := by have := HK.out; simpa using this
       clear hst hst2
       go_roundg 0
       case measure => omega
       case rel => exact ⟨q2.1, pb, false, rfl, HHK, HHE, ⟨(HGb.out.block gi (blk_lt HI.out) (fun e => HGI.out.1 (Option.some.inj e).symm)).trans HI.out⟩, ⟨(HGb.out.block go (blk_lt HO.out) (fun e => HGO.out.1 (Option.some.inj e).symm)).trans HO.out⟩, HVb, ⟨HW.out.grown HGb.out HNE.out⟩, HPb, HL2, ⟨HB.out.grown HGb.out HB.out.size (fun j hj => by obtain rfl := Option.some.inj hj; exact HGB.out)⟩⟩
end Go.Proofs.Ytohhobcipfmkbaa.CFin
end
section
namespace Go.Proofs.Ytohhobcipfmkbaa.CRow
open Go.RowKit Go.ChangeShapes Go.WideShapes Go.Deep Go.Proofs.YtohhobcipfmkbaaW.PrintWords Go.Proofs.Ytohhobcipfmkbaa.PClusterFinest
section
variable {H : Type} {enc : TypeId × Value → H} {w : World} {base : Nat} {spare : Nat → Bool} {held : Bool}
theorem cellsOf33 : Try.prog.cellsOf 33 = 2 := by kernel_rfl
theorem cellsOf3 : Try.prog.cellsOf 3 = 1 := by kernel_rfl
theorem read33 {n : Nat} {cs : List Value} {x : DataW H × List MemPlace} (h : DataW.trod enc Try.prog w base spare held n 33 cs = some x) : ∃ s : S33, cs = [.int .i64 s.f0, .int .i64 s.f1] := by
 obtain ⟨y0, y1, m, _, hl, h0, h1⟩ := trod_struct2 Try.underlying33 h
 rw [cellsOf33] at hl
 dsimp only at h0 h1
 rw [cellsOf3] at h0 h1
 obtain ⟨a, ha, _⟩ := DataW.trod_int Try.underlying3 h0
 obtain ⟨b, hb, _⟩ := DataW.trod_int Try.underlying3 h1
 match cs, hl with
 | [c0, c1], _ =>
  simp at ha hb
  exact ⟨⟨a, b⟩, by rw [ha, hb]⟩
end
end Go.Proofs.Ytohhobcipfmkbaa.CRow
namespace Go.Proofs.Ytohhobcipfmkbaa.PClusterFinest
open Go.RowKit Go.Proofs.YtohhobcipfmkbaaW.PrintWords Go.Proofs.YtohhobcipfmkbaaW.PrintLast Go.Proofs.YtohhobcipfmkbaaW.PrintMore
attribute [local go_sem] max2_int min2_int max_two min_two max_three min_three max_four min_four   -- for this text's walks alone
attribute [local go_sem high] eqA45
def api_Cluster.l0 : Nat → List (S45) → List (S45) → Int → Int → Option (Bool)
 | 0, _, _, _, _ => none
 | k + 1, x0, x1, x12, x13 => if x13 < x12 then (if 0 ≤ x13 then (if x13 < (x0.length : Int) then (if x13 < (x1.length : Int) then (if ((!(((rd_T45 x0 x13).f0.f0) == ((rd_T45 x1 x13).f0.f0)) || (!(((rd_T45 x0 x13).f0.f1) == ((rd_T45 x1 x13).f0.f1)))) || ((!(((rd_T45 x0 x13).f1.f0) == ((rd_T45 x1 x13).f1.f0)) || (!(((rd_T45 x0 x13).f1.f1) == ((rd_T45 x1 x13).f1.f1)))))) = true then (some false) else (api_Cluster.l0 k x0 x1 x12 (wrap64 (x13 + 1)))) else (none)) else (none)) else (none)) else (some true)
def api_Cluster.f (k : Nat) (l0 : List (S45)) (l1 : List (S45)) : Option (Bool) := if (l0.length : Int) = (l1.length : Int) then (api_Cluster.l0 k l0 l1 (l0.length : Int) 0) else (some false)
set_option maxHeartbeats 8000000 in
set_option maxRecDepth 100000 in
theorem api_Cluster.calls (k : Nat) (A0 : Option Addr) (c0 : Nat) (l0 : List (S45)) (A1 : Option Addr) (c1 : Nat) (l1 : List (S45)) (r : Bool) (w : World) (hr0 : Kd.C k45 w A0 l0.length l0) (hc0 : l0.length ≤ c0) (hr1 : Kd.C k45 w A1 l1.length l1) (hc1 : l1.length ≤ c1) (h : api_Cluster.f k l0 l1 = some r) :
 Calls Try.prog 23 #[.slice A0 l0.length c0, .slice A1 l1.length c1] w fun e w' => e = .returned (.bool r) ∧ Drawn0 w w' := by
 have hu45 := Try.underlying45
 have HR0 := Aside0.mk hr0
 have HC0 := Aside0.mk hc0
 clear hr0 hc0
 have HR1 := Aside0.mk hr1
 have HC1 := Aside0.mk hc1
 clear hr1 hc1
 have H : (if (l0.length : Int) = (l1.length : Int) then (api_Cluster.l0 k l0 l1 (l0.length : Int) 0) else (some false)) = some r := h
 clear h
 by_cases c3 : (l0.length : Int) = (l1.length : Int)
 ·rw [if_pos c3] at H
  have c3b0 : ((l0.length : Int) == (l1.length : Int)) = true := beq_iff_eq.mpr c3
  have c3b1 : ((l0.length : Int) != (l1.length : Int)) = false := bne_eq_false_iff_eq.mpr c3
  have c3b2 : (l0.length == l1.length) = true := by first | simpa using c3 | (simp at c3 ⊢; omega)
  clear c3
  have H' := Aside0.mk H
  clear H
  go_enter Try.func23, Try.ntmps23
  go_wp2
  repeat (go_quiet (fail); try go_wp2)
  go_loopg [13] k (fun kq v13 w' => ∃ (x13_1 : Int), v13 = .int .i64 x13_1 ∧ Aside0 (api_Cluster.l0 kq l0 l1 (l0.length : Int) x13_1 = some r) ∧ Aside0 (kq ≤ k) ∧ Drawn0 w w')
  case atStart => exact ⟨(0), (by first | rfl | (simp; done) | (simp [*]; done)), H', ⟨Nat.le_refl _⟩, by repeat (first | exact Drawn0.refl _ | apply Drawn0.step)⟩
  case round =>
   clear H'
   try clear c1
   try clear c2
   try clear p2
   try clear c3
   try clear c3b0
   try clear c3b1
   try clear c3b2
   obtain ⟨x13_1, rfl, HA, HK1, ⟨m1, rfl⟩⟩ := hrel
   cases gk with
   | zero => exact absurd HA.out (by simp [api_Cluster.l0])
   | succ k1 =>
    have H := HA.out
    clear HA
    simp only [api_Cluster.l0] at H
    by_cases c4 : x13_1 < (l0.length : Int)
    ·rw [if_pos c4] at H
     have c4b0 : decide (x13_1 < (l0.length : Int)) = true := decide_eq_true c4
     clear c4
     by_cases c5 : 0 ≤ x13_1
     ·rw [if_pos c5] at H
      have c5b0 : decide (0 ≤ x13_1) = true := decide_eq_true c5
      clear c5
      by_cases c6 : x13_1 < (l0.length : Int)
      ·rw [if_pos c6] at H
       have c6b0 : decide (x13_1 < (l0.length : Int)) = true := decide_eq_true c6
       clear c6
       by_cases c7 : x13_1 < (l1.length : Int)
       ·rw [if_pos c7] at H
        have c7b0 : decide (x13_1 < (l1.length : Int)) = true := decide_eq_true c7
        clear c7
        by_cases c8 : ((!(((rd_T45 l0 x13_1).f0.f0) == ((rd_T45 l1 x13_1).f0.f0)) || (!(((rd_T45 l0 x13_1).f0.f1) == ((rd_T45 l1 x13_1).f0.f1)))) || ((!(((rd_T45 l0 x13_1).f1.f0) == ((rd_T45 l1 x13_1).f1.f0)) || (!(((rd_T45 l0 x13_1).f1.f1) == ((rd_T45 l1 x13_1).f1.f1)))))) = true
        ·rw [if_pos c8] at H
         have c8b0 : ((!(((rd_T45 l0 x13_1).f0.f0) == ((rd_T45 l1 x13_1).f0.f0)) || (!(((rd_T45 l0 x13_1).f0.f1) == ((rd_T45 l1 x13_1).f0.f1)))) || ((!(((rd_T45 l0 x13_1).f1.f0) == ((rd_T45 l1 x13_1).f1.f0)) || (!(((rd_T45 l0 x13_1).f1.f1) == ((rd_T45 l1 x13_1).f1.f1)))))) = true := c8
         clear c8
         obtain rfl := Option.some.inj H
         have p101 : 0 ≤ (x13_1 : Int) := of_decide_eq_true (by first | (with_reducible assumption) | assumption)
         have q101 : x13_1 < (l0.length : Int) := of_decide_eq_true (by first | (with_reducible assumption) | assumption)
         obtain ⟨ad101, e101, hx101_0, hx101_1, hx101_2, hx101_3⟩ := at_T45 HR0.out x13_1 p101 q101
         cases e101
         replace p101 := eq_true p101
         replace q101 := eq_true q101
         have p102 : 0 ≤ (x13_1 : Int) := of_decide_eq_true (by first | (with_reducible assumption) | assumption)
         have q102 : x13_1 < (l1.length : Int) := of_decide_eq_true (by first | (with_reducible assumption) | assumption)
         obtain ⟨ad102, e102, hx102_0, hx102_1, hx102_2, hx102_3⟩ := at_T45 HR1.out x13_1 p102 q102
         cases e102
         replace p102 := eq_true p102
         replace q102 := eq_true q102
         go_wp2
         repeat (go_quiet (fail); try go_wp2)
         go_ret
         exact ⟨by first | rfl | (simp; done) | (simp [*]; done), by repeat (first | exact Drawn0.refl _ | apply Drawn0.step)⟩
        ·rw [if_neg c8] at H
         have c8b0 : ((!(((rd_T45 l0 x13_1).f0.f0) == ((rd_T45 l1 x13_1).f0.f0)) || (!(((rd_T45 l0 x13_1).f0.f1) == ((rd_T45 l1 x13_1).f0.f1)))) || ((!(((rd_T45 l0 x13_1).f1.f0) == ((rd_T45 l1 x13_1).f1.f0)) || (!(((rd_T45 l0 x13_1).f1.f1) == ((rd_T45 l1 x13_1).f1.f1)))))) = false := by simpa using c8
         clear c8
         have H' := Aside0.mk H
         clear H
         have p101 : 0 ≤ (x13_1 : Int) := of_decide_eq_true (by first | (with_reducible assumption) | assumption)
         have q101 : x13_1 < (l0.length : Int) := of_decide_eq_true (by first | (with_reducible assumption) | assumption)
         obtain ⟨ad101, e101, hx101_0, hx101_1, hx101_2, hx101_3⟩ := at_T45 HR0.out x13_1 p101 q101
         cases e101
         replace p101 := eq_true p101
         replace q101 := eq_true q101
         have p102 : 0 ≤ (x13_1 : Int) := of_decide_eq_true (by first | (with_reducible assumption) | assumption)
         have q102 : x13_1 < (l1.length : Int) := of_decide_eq_true (by first | (with_reducible assumption) | assumption)
         obtain ⟨ad102, e102, hx102_0, hx102_1, hx102_2, hx102_3⟩ := at_T45 HR1.out x13_1 p102 q102
         cases e102
         replace p102 := eq_true p102
         replace q102 := eq_true q102
         go_wp2
         repeat (go_quiet (fail); try go_wp2)
         go_roundg k1
         case measure => have := HK1.out; omega
         case rel => exact ⟨(wrap64 (x13_1 + 1)), (by first | rfl | (simp; done) | (simp [*]; done)), H', ⟨by have := HK1.out; omega⟩, by repeat (first | exact Drawn0.refl _ | apply Drawn0.step)⟩
       ·rw [if_neg c7] at H
        exact absurd H (by simp)
      ·rw [if_neg c6] at H
       exact absurd H (by simp)
     ·rw [if_neg c5] at H
      exact absurd H (by simp)
    ·rw [if_neg c4] at H
     have c4b0 : decide (x13_1 < (l0.length : Int)) = false := decide_eq_false c4
     clear c4
     obtain rfl := Option.some.inj H
     go_wp2
     repeat (go_quiet (fail); try go_wp2)
     go_ret
     exact ⟨by first | rfl | (simp; done) | (simp [*]; done), by repeat (first | exact Drawn0.refl _ | apply Drawn0.step)⟩
 ·rw [if_neg c3] at H
  have c3b0 : ((l0.length : Int) == (l1.length : Int)) = false := beq_eq_false_iff_ne.mpr c3
  have c3b1 : ((l0.length : Int) != (l1.length : Int)) = true := bne_iff_ne.mpr c3
  have c3b2 : (l0.length == l1.length) = false := by first | simpa using c3 | (simp at c3 ⊢; omega)
  obtain rfl := Option.some.inj H
  go_enter Try.func23, Try.ntmps23
  go_wp2
  repeat (go_quiet (fail); try go_wp2)
  go_ret
  exact ⟨by first | rfl | (simp; done) | (simp [*]; done), by repeat (first | exact Drawn0.refl _ | apply Drawn0.step)⟩
end Go.Proofs.Ytohhobcipfmkbaa.PClusterFinest
end
section
namespace Go.Proofs.Ytohhobcipfmkbaa.CSort
open Go.RowKit Go.Proofs.YtohhobcipfmkbaaW.PrintWords Go.Proofs.YtohhobcipfmkbaaW.PrintMore Go.Proofs.YtohhobcipfmkbaaW.PrintLast Go.Proofs.Ytohhobcipfmkbaa.U Go.Proofs.Ytohhobcipfmkbaa.PClusterFinest
open Go.Shelf
shelf_lay_g SlLaysF0.n20 Slsf 20 at Try 91 as lins
set_option maxRecDepth 100000 in
set_option maxHeartbeats 2000000 in
theorem stable_few {w : World} {base : Nat} {ok : Nat → Prop} {v : Value} {f : List S33} (h : Kd.R k33 33 w base ok v f) (h0 : 0 < f.length) (hm : f.length < 20) :
 Calls Try.prog 53 #[v, .func (.func 54) #[] #[]] w fun e w' => e = .returned (.tuple #[]) ∧ ∃ d : List S33, d.Perm f ∧ d.Pairwise (fun a b => ¬ b.f0 < a.f0) ∧ SLk k33 w' v d ∧ w.grownBy w' v.ownBlock := by
 obtain ⟨g, cap, rfl, hg, hgs, _⟩ := Kd.R_form h h0
 have hH := holds33 h
 obtain ⟨_, hcap, _⟩ := Kd.R_reads' h
 have hcon := AnyQ.insertionSortCmpFunc lins 2 Try.isAgg33 Try.sizeOf33 enc33 (fun _ => rfl) (fun x v hv => by simp [enc33] at hv; rcases hv with rfl | rfl <;> rfl) cf33 54 #[] g 0 cap 0 f.length f.toArray w (enters_of Try.func54 (by kernel_rfl) rfl) (fun _ _ _ _ x y => byLo_c x y _) hH hgs (Nat.zero_le _) (by simp) (by simp; omega)
 have hs := Go.Sort.insertionSort_holds (lt := ltOf cf33) swo33 f.toArray 0 f.length (Nat.zero_le _) (by simp)
 change Calls Try.prog 91 _ _ _ at hcon
 have hsize : f.toArray.size = f.length := by simp
 rw [hsize] at hcon
 have HCON : Aside0 (Calls Try.prog 91 #[.slice (some ⟨g, 0, none⟩) f.length cap, .int .i64 (0 : Nat), .int .i64 f.length, .func (.func 54) #[] #[]] w _) := ⟨hcon⟩
 have HS := Aside0.mk hs
 have HH := Aside0.mk hH
 clear hcon hs hH
 have q1 : ¬ (20 : Int) ≤ (f.length : Int) := by omega
 have q2 : ¬ (20 : Int) < (f.length : Int) := by omega
 go_enter Try.func53, Try.ntmps53
 go_wp2_with (go_at_call 79; go_enter Try.func79, Try.ntmps79)
 refine wp_loop_rounds 1 ?_
 rw [rounds_succ]
 go_wp2_with (go_at_call 91; refine HCON.out.mono ?_; rintro e w2 ⟨rfl, n, os, rfl⟩)
 refine wp_loop_rounds 1 ?_
 rw [rounds_succ]
 go_wp2_with fail
 go_end0
 go_wp2_with fail
 go_end0
 have hsz : (Go.Sort.insertionSort (ltOf cf33) f.toArray 0 f.length).size = f.length := by rw [HS.out.1.1]; simp
 refine ⟨rfl, _, perm_of HS.out.1, ?_, ?_, grown_sorted⟩
 ·rw [List.pairwise_iff_getElem]
  intro i j hi hj hij
  have := HS.out.2 i j (Nat.zero_le _) hij (by rw [← hsz]; simpa using hj)
  rw [lt33, getElem!_pos _ i (by simpa using hi), getElem!_pos _ j (by simpa using hj)] at this
  simpa using this
 ·have := reads33 (cap := cap) (holdsK_sortWorldK enc33 2 w g 0 n f.toArray _ os hgs HH.out (by rw [hsz]; simp)) (by omega) (by omega)
  rw [show (Go.Sort.insertionSort (ltOf cf33) f.toArray 0 f.length).toList.length = f.length by simpa using hsz] at this
  exact this
def partsTo (n : Int) : List S33 → Int → Bool
 | [], e => decide (e = n)
 | s :: r, e => if s.f0 = e ∧ 0 ≤ s.f0 ∧ s.f0 < s.f1 then partsTo n r s.f1 else false
theorem parts_loop (n : Int) (l : List S33) (hl : l.length ≤ 1000000) (d : Nat) : ∀ (i : Nat) (e : Int), i + d = l.length → Ev (fun k => span_Parts.l0 k n e l (l.length : Int) (i : Int)) (partsTo n (l.drop i) e) := by
 induction d with
 | zero =>
  intro i e hd
  rw [List.drop_of_length_le (by omega), partsTo]
  refine Ev.step (fun k => by rw [span_Parts.l0]) (ev_neg (by omega) (ev_eq (ev_now _) ?_))
  rw [Bool.eq_iff_iff]; simp
 | succ d ih =>
  intro i e hd
  have hlt : i < l.length := by omega
  rw [List.drop_eq_getElem_cons hlt, partsTo]
  refine Ev.step (fun k => by rw [span_Parts.l0]) (ev_pos (by omega) (ev_pos (by omega) (ev_pos (by omega) ?_)))
  rw [CFin.rd33 hlt]
  by_cases h1 : l[i].f0 = e
  ·refine ev_pos h1 ?_
   unfold span_Right.f
   by_cases h2 : 0 ≤ l[i].f0
   ·rw [if_pos h2]
    refine ev_bindc rfl ?_
    by_cases h3 : l[i].f0 < l[i].f1
    ·rw [if_pos ⟨h1, h2, h3⟩]
     refine ev_pos (decide_eq_true h3) ?_
     rw [w64 (by omega) (by omega), show (i : Int) + 1 = ((i + 1 : Nat) : Int) by omega]
     exact ih (i + 1) _ (by omega)
    ·rw [if_neg (fun h => h3 h.2.2)]
     exact ev_neg (by simpa using h3) (ev_now _)
   ·rw [if_neg h2, if_neg (fun h => h2 h.2.1)]
    exact ev_bindc rfl (ev_neg (by simp) (ev_now _))
  ·rw [if_neg (fun h => h1 h.1)]
   exact ev_neg h1 (ev_now _)
theorem parts_c (n : Int) {w : World} {v : Value} {l : List S33} (h : SLk k33 w v l) (hl : l.length ≤ 1000000) : Calls Try.prog 55 #[v, .int .i64 n] w fun e w' => e = .returned (.bool (partsTo n l 0)) ∧ Below w.heap.size w w' := by
 obtain ⟨A, c, rfl, hc, hC⟩ := h
 obtain ⟨k, hk⟩ := CFin.ev_some (parts_loop n l hl l.length 0 0 (by omega))
 exact span_Parts.calls k A c l n _ w hC hc hk
def checkB (n m : Int) (l : List S45) (d : List S33) : Bool := partsTo n (l.map (·.f0)) 0 && partsTo m d 0
set_option maxRecDepth 100000 in
set_option maxHeartbeats 2000000 in
theorem check_by {w : World} {v : Value} {l : List S45} (n m : Int) (h : SLk k45 w v l) (hl : l.length ≤ 1000000)
 (hsort : ∀ (w1 : World) (u : Value) (base : Nat) (ok : Nat → Prop), Kd.R k33 33 w1 base ok u (l.map (·.f1)) → Calls Try.prog 53 #[u, .func (.func 54) #[] #[]] w1 fun e w' => e = .returned (.tuple #[]) ∧ ∃ d : List S33, d.Perm (l.map (·.f1)) ∧ d.Pairwise (fun a b => ¬ b.f0 < a.f0) ∧ SLk k33 w' u d ∧ w1.grownBy w' u.ownBlock) :
 Calls Try.prog 29 #[v, .int .i64 n, .int .i64 m] w fun e w' => ∃ d : List S33, d.Perm (l.map (·.f1)) ∧ d.Pairwise (fun a b => ¬ b.f0 < a.f0) ∧ e = .returned (.bool (checkB n m l d)) ∧ Below w.heap.size w w' := by
 have H := Aside0.mk h
 have HSO := Aside0.mk hsort
 clear h hsort
 go_enter Try.func29, Try.ntmps29
 go_upto_region 3 with (first | (go_at_call 52; refine (CFin.sides_c H.out hl).mono ?_; rintro e w1 ⟨u1, u2, rfl, a1, a2, a3, a4⟩; have HR1 := Aside0.mk a1; have HR2 := Aside0.mk a2; have HNE := Aside0.mk a3; have HB1 := Aside0.mk a4; clear a1 a2 a3 a4) | (go_at_call 53; refine (HSO.out _ _ _ _ HR2.out).mono ?_; rintro e w2 ⟨rfl, d, p1, p2, p3, p4⟩; have HP := Aside0.mk p1; have HPW := Aside0.mk p2; have HS2 := Aside0.mk p3; have HI2 : Aside0 (SLk k33 w2 u1 (l.map (·.f0))) := ⟨SLk.of_R (Kd.R_grown HR1.out p4 (fun k hk e => HNE.out k hk.symm e.symm))⟩; have HB2 : Aside0 (Below w.heap.size w w2) := ⟨HB1.out.grown p4 HB1.out.size (fun j hj => Kd.R_base HR2.out j hj)⟩; clear p1 p2 p3 p4 HR1 HR2 HB1 HNE))
 have hdl : d.length = l.length := by rw [HP.out.length_eq, List.length_map]
 have hdm : d.length ≤ 1000000 := by omega
 have him : (l.map (·.f0)).length ≤ 1000000 := by rw [List.length_map]; exact hl
 have HDM := Aside0.mk hdm
 have HIM := Aside0.mk him
 obtain ⟨b1, hb1⟩ : ∃ b1, partsTo n (l.map (·.f0)) 0 = b1 := ⟨_, rfl⟩
 obtain ⟨b2, hb2⟩ : ∃ b2, partsTo m d 0 = b2 := ⟨_, rfl⟩
 have HC : Aside0 (checkB n m l d = (b1 && b2)) := ⟨by unfold checkB; rw [hb1, hb2]⟩
 have HB1 := Aside0.mk hb1
 have HB2' := Aside0.mk hb2
 have T1 : Aside0 True := ⟨trivial⟩
 clear hdl hdm him hb1 hb2
 cases b1 with
 | false =>
  go_wp2_with (first | (go_at_call 55; have tk := T1.out; clear T1 tk; refine (parts_c n HI2.out HIM.out).mono ?_; rintro e w3 ⟨rfl, hb3⟩; rw [HB1.out]; have HB3 : Aside0 (Below w.heap.size w w3) := ⟨below_step HB2.out hb3⟩; have HS3 := Aside0.mk (SLk.below HS2.out hb3); clear hb3 HS2 HB2))
  go_ret
  exact ⟨d, HP.out, HPW.out, by rw [HC.out]; rfl, HB3.out⟩
 | true =>
  go_wp2_with (first | (go_at_call 55; have tk := T1.out; clear T1 tk; refine (parts_c n HI2.out HIM.out).mono ?_; rintro e w3 ⟨rfl, hb3⟩; rw [HB1.out]; have HB3 : Aside0 (Below w.heap.size w w3) := ⟨below_step HB2.out hb3⟩; have HS3 := Aside0.mk (SLk.below HS2.out hb3); clear hb3 HS2 HB2) | (go_at_call 55; refine (parts_c m HS3.out HDM.out).mono ?_; rintro e w4 ⟨rfl, hb4⟩; rw [HB2'.out]; have HB4 : Aside0 (Below w.heap.size w w4) := ⟨below_step HB3.out hb4⟩; clear hb4 HS3 HB3))
  go_ret
  exact ⟨d, HP.out, HPW.out, by rw [HC.out]; rfl, HB4.out⟩
end Go.Proofs.Ytohhobcipfmkbaa.CSort
end
section
namespace Go.Proofs.Ytohhobcipfmkbaa.CFin
open Go.RowKit Go.Proofs.YtohhobcipfmkbaaW.PrintWords Go.Proofs.YtohhobcipfmkbaaW.PrintMore Go.Proofs.YtohhobcipfmkbaaW.PrintLast Go.Proofs.Ytohhobcipfmkbaa.U Go.Proofs.Ytohhobcipfmkbaa.PClusterFinest Go.Proofs.Ytohhobcipfmkbaa.UFinest Go.Proofs.Ytohhobcipfmkbaa.UFinEv
def fewB : List S45 → Nat → Bool
 | [], _ => true
 | x :: r, i => if 30 ≤ i ∨ x.f0.f1 > 60 ∨ x.f1.f1 > 60 then false else fewB r (i + 1)
theorem few_loop (l : List S45) (hl : l.length ≤ 9223372036854775807) (d : Nat) : ∀ i : Nat, i + d = l.length → Ev (fun k => naskhlaw04_few.l0 k l (l.length : Int) (i : Int)) (fewB (l.drop i) i) := by
 induction d with
 | zero =>
  intro i hd
  rw [List.drop_of_length_le (by omega), fewB]
  exact Ev.step (fun k => by rw [naskhlaw04_few.l0]) (ev_neg (by omega) (ev_now _))
 | succ d ih =>
  intro i hd
  have hlt : i < l.length := by omega
  rw [List.drop_eq_getElem_cons hlt, fewB]
  refine Ev.step (fun k => by rw [naskhlaw04_few.l0]) (ev_pos (by omega) (ev_pos (by omega) (ev_pos (by omega) ?_)))
  rw [rd45 hlt]
  by_cases h1 : (i : Int) ≥ 30
  ·rw [if_pos (.inl (by omega))]; exact ev_pos h1 (ev_now _)
  ·refine ev_neg h1 ?_
   by_cases h2 : l[i].f0.f1 > 60
   ·rw [if_pos (.inr (.inl h2))]; exact ev_pos h2 (ev_now _)
   ·refine ev_neg h2 ?_
    by_cases h3 : l[i].f1.f1 > 60
    ·rw [if_pos (.inr (.inr h3))]; exact ev_pos h3 (ev_now _)
    ·rw [if_neg (by omega)]
     refine ev_neg h3 ?_
     rw [w64 (by omega) (by omega), show (i : Int) + 1 = ((i + 1 : Nat) : Int) by omega]
     exact ih (i + 1) (by omega)
end Go.Proofs.Ytohhobcipfmkbaa.CFin
namespace Go.Proofs.Ytohhobcipfmkbaa.CFin
open Go.RowKit Go.Maps Go.Proofs.YtohhobcipfmkbaaW.PrintWords Go.Proofs.YtohhobcipfmkbaaW.PrintMore Go.Proofs.YtohhobcipfmkbaaW.PrintLast Go.Proofs.Ytohhobcipfmkbaa.U Go.Proofs.Ytohhobcipfmkbaa.PClusterFinest Go.Proofs.Ytohhobcipfmkbaa.UFinest Go.Proofs.Ytohhobcipfmkbaa.UFinEv
theorem eq45_loop (xs : List S45) (hm : xs.length ≤ 1000000) (n : Nat) : ∀ i : Nat, i + n = xs.length → Ev (fun k => api_Cluster.l0 k xs xs (xs.length : Int) i) true := by
 induction n with
 | zero =>
  intro i hi
  refine Ev.step (fun k => by rw [api_Cluster.l0]) (ev_neg (by omega) (ev_now _))
 | succ n ih =>
  intro i hi
  refine Ev.step (fun k => by rw [api_Cluster.l0]) (ev_pos (by omega) (ev_pos (by omega) (ev_pos (by omega) (ev_pos (by omega) (ev_neg (by simp) ?_)))))
  rw [w64 (by omega) (by omega)]
  exact ih (i + 1) (by omega)
theorem eq45_c {u v : Value} {xs : List S45} {w : World} (h1 : SLk k45 w u xs) (h2 : SLk k45 w v xs) (hm : xs.length ≤ 1000000) : Calls Try.prog 23 #[u, v] w fun e w' => e = .returned (.bool true) ∧ Drawn0 w w' := by
 obtain ⟨A, c, rfl, hc, hC⟩ := h1
 obtain ⟨B, d, rfl, hd, hD⟩ := h2
 have he : Ev (fun k => api_Cluster.f k xs xs) true := ev_pos rfl (eq45_loop xs hm xs.length 0 (by omega))
 obtain ⟨k, hk⟩ := ev_some he
 exact api_Cluster.calls k A c xs B d xs true w hC hc hD hd hk
end Go.Proofs.Ytohhobcipfmkbaa.CFin
end
section
namespace Go.Proofs.Ytohhobcipfmkbaa.Cel
open Go.RowKit Go.Maps Go.Proofs.YtohhobcipfmkbaaW.PrintWords Go.Proofs.YtohhobcipfmkbaaW.PrintMore Go.Proofs.YtohhobcipfmkbaaW.PrintLast Go.Proofs.Ytohhobcipfmkbaa.U Go.Proofs.Ytohhobcipfmkbaa.PClusterFinest Go.Proofs.Ytohhobcipfmkbaa.UFinest Go.Proofs.Ytohhobcipfmkbaa.UGroups Go.Proofs.Ytohhobcipfmkbaa.UFinEv
open Go.Proofs.Ytohhobcipfmkbaa.CFin (rd33 ev_some finest_c finest_bad cluS toS eq45_c drawn0_below)
theorem eqI_loop (xs : List Int) (hm : xs.length ≤ 1000000000) (n : Nat) : ∀ i : Nat, i + n = xs.length → Ev (fun k => slices_Equal_int_int.l0 k xs xs (xs.length : Int) i) true := by
 induction n with
 | zero =>
  intro i hi
  exact Ev.step (fun k => by rw [slices_Equal_int_int.l0]) (ev_neg (by omega) (ev_now _))
 | succ n ih =>
  intro i hi
  refine Ev.step (fun k => by rw [slices_Equal_int_int.l0]) (ev_pos (by omega) (ev_pos (by omega) (ev_pos (by omega) (ev_pos (by omega) (ev_pos rfl ?_)))))
  rw [w64 (by omega) (by omega)]
  exact ih (i + 1) (by omega)
theorem eqI_c {u v : Value} {xs : List Int} {w : World} (h1 : SL w u xs) (h2 : SL w v xs) (hm : xs.length ≤ 1000000000) : Calls Try.prog 16 #[u, v] w fun e w' => e = .returned (.bool true) ∧ Below w.heap.size w w' := by
 obtain ⟨A, c, rfl, hc, hC⟩ := h1
 obtain ⟨B, d, rfl, hd, hD⟩ := h2
 have he : Ev (fun k => slices_Equal_int_int.f k xs xs) true := ev_pos rfl (eqI_loop xs hm xs.length 0 (by omega))
 obtain ⟨k, hk⟩ := ev_some he
 refine (slices_Equal_int_int.calls k A c xs B d xs true w hC hc hD hd hk).mono ?_
 rintro e w' ⟨rfl, hb⟩
 first | exact ⟨rfl, hb⟩ | exact ⟨rfl, drawn0_below hb⟩
theorem aw_links : linksOf [[], [7, 8]] (groups 2 []) = ([⟨⟨1, 2⟩, ⟨0, 2⟩⟩], 2) := by kernel_rfl
abbrev awK : List S45 := [⟨⟨1, 2⟩, ⟨0, 2⟩⟩]
theorem awK_wrong : wrongR (2 : Nat) (2 : Nat) awK = 0 := by decide
theorem awK_cluS {L : Lab} (h : FinOk 2 2 (awK.map lkOf) L) : cluS 2 2 L 2 = [⟨⟨0, 2⟩, ⟨0, 2⟩⟩] := by
 have hb := h.closed.both ⟨1, 2, 0, 2⟩ (by simp [lkOf])
 have ho := h.closed.outs ⟨1, 2, 0, 2⟩ (by simp [lkOf]) 1 (by decide) (by decide)
 have ha := h.closed.ahead 0 (by decide) (by decide)
 have e1 : L 1 = L 2 := hb
 have e2 : L 2 = L 3 := ho
 have e3 : L 0 = L 1 := ha
 unfold cluS cluTo
 simp [List.range_succ, List.filterMap, hullL, e1, e3, ← e2, toS]
theorem sl78 {w : World} {g : Nat} (h : w.heap[g]? = some (.cells #[.int .i64 7, .int .i64 8] 3 (0, 0))) : SL w (.slice (some ⟨g, 0, none⟩) 2 2) [7, 8] := by
 refine ⟨_, _, rfl, Nat.le_refl _, rfl, by simp, fun _ => ⟨_, rfl, fun j p hj => ?_⟩⟩
 match j, hj with
 | 0, hj =>
  obtain rfl := Option.some.inj hj
  refine ⟨[.int .i64 7], rfl, rfl, fun k u hu => ?_⟩
  cases k with
  | zero => rw [add_plain, blk_cell h]; exact hu
  | succ k => simp at hu
 | 1, hj =>
  obtain rfl := Option.some.inj hj
  refine ⟨[.int .i64 8], rfl, rfl, fun k u hu => ?_⟩
  cases k with
  | zero => rw [add_plain, blk_cell h]; exact hu
  | succ k => simp at hu
theorem slClu {W : World} {b : Nat} {p : S45} (h : W.heap[b]? = some (.cells #[.int .i64 p.f0.f0, .int .i64 p.f0.f1, .int .i64 p.f1.f0, .int .i64 p.f1.f1] 45 (0, 0))) : SLk k45 W (.slice (some ⟨b, 0, none⟩) 1 1) [p] := by
 refine ⟨_, _, rfl, Nat.le_refl _, rfl, by simp, fun hn => ⟨_, rfl, fun j x hj => ?_⟩⟩
 match j, hj with
 | 0, hj =>
  obtain rfl := Option.some.inj hj
  refine ⟨_, rfl, k45_mk W _, fun i u hu => ?_⟩
  rw [show (⟨b, 0, none⟩ : Addr).add (0 * k45.sz + i) = ⟨b, i, none⟩ by rw [add_plain]; simp, blk_cell h]
  match i, hu with
  | 0, hu => exact hu
  | 1, hu => exact hu
  | 2, hu => exact hu
  | 3, hu => exact hu
set_option maxRecDepth 100000 in
set_option maxHeartbeats 4000000 in
theorem awake12_c {w : World} : Calls Try.prog 12 #[] w fun e w' => e = .returned (.bool true) ∧ Below w.heap.size w w' := by
 go_enter Try.func12, Try.ntmps12
 go_wp2_with (first | (go_at_call 13; refine (new_c 2 (by decide)).mono ?_; rintro e w1 ⟨b, rfl, hc, hb⟩; have HC1 := Aside0.mk hc; have HB1 := Aside0.mk hb; clear hc hb) | (go_at_call 24; refine (set_c (CellsAt.below HC1.out (below_alloc (Below.refl _ _) _)) 1 (by simp) (sl78 (MapKept.heap_alloc w1 _).1) (by simp)).mono ?_; rintro e w2 ⟨rfl, hc, he⟩; have HC2 : Aside0 (CellsAt 51 w2 (fun q => w.heap.size ≤ q) b [[], [7, 8]] []) := ⟨CellsAt.mono hc (fun q hq => hq.elim (fun h => h) (fun h => Nat.le_trans HB1.out.size (Nat.le_trans (below_alloc (Below.refl _ _) _).size h)))⟩; have HB2 : Aside0 (Below w.heap.size w w2) := ⟨((Eff.of_below (below_alloc HB1.out _) (fun _ => False)).then_ he (fun k hk => .inr hk)).below (Nat.le_refl _) (fun _ h => h.elim)⟩; clear hc he) | (go_at_call 21; refine (clusters_c HC2.out (by decide) (by decide) (by decide) (fun u r w' => (0 : Int) = r ∧ SLk k45 w' u [⟨⟨0, 2⟩, ⟨0, 2⟩⟩]) (fun w1 u hs hb => by rw [show linksOf [[], [7, 8]] (groups ([[], [7, 8]] : List (List Int)).length []) = (awK, 2) from aw_links] at hs ⊢; exact (finest_c 2 2 hs (by decide) (by decide) (by decide) (by decide) awK_wrong).mono (by rintro e w' ⟨u, L2, rfl, hf, hR, hb⟩; rw [awK_cluS hf] at hR; exact ⟨_, _, rfl, ⟨rfl, SLk.of_R hR⟩, hb⟩))).mono ?_; rintro e w3 ⟨u3, r, rfl, ⟨rfl, hs⟩, hb⟩; have HU3 := Aside0.mk hs; have HC3 := Aside0.mk (HC2.out.below hb); have HB3 : Aside0 (Below w.heap.size w w3) := ⟨below_step HB2.out hb⟩; clear hs hb) | (go_at_call 17; refine (text_c HC3.out (by decide) (by decide)).mono ?_; rintro e w4 ⟨u4, rfl, hu, hb⟩; have HT4 : Aside0 (SL w4 u4 [7, 8]) := ⟨SLk.of_R hu⟩; have HU4 := Aside0.mk (SLk.below HU3.out hb); have HB4 : Aside0 (Below w.heap.size w w4) := ⟨below_step HB3.out hb⟩; clear hu hb) | (go_at_call 16; refine (eqI_c (SLk.below HT4.out (below_alloc (Below.refl _ _) _)) (sl78 (MapKept.heap_alloc w4 _).1) (by simp)).mono ?_; rintro e w5 ⟨rfl, hb⟩; have HB5 : Aside0 (Below w.heap.size w w5) := ⟨below_step (below_alloc HB4.out _) hb⟩; have HU5 := Aside0.mk (SLk.below (SLk.below HU4.out (below_alloc (Below.refl _ _) _)) hb); clear hb) | (go_at_call 23; refine (eq45_c (xs := [⟨⟨0, 2⟩, ⟨0, 2⟩⟩]) (SLk.below HU5.out (below_alloc (Below.refl _ _) _)) (slClu (MapKept.heap_alloc w5 _).1) (by simp)).mono ?_; rintro e w6 ⟨rfl, hd⟩; have HB6 : Aside0 (Below w.heap.size w w6) := ⟨below_step (below_alloc HB5.out _) (drawn0_below hd)⟩; clear hd))
 go_ret
 exact ⟨rfl, HB6.out⟩
end Go.Proofs.Ytohhobcipfmkbaa.Cel
end
section
namespace Go.Proofs.Ytohhobcipfmkbaa.Cel
open Go.RowKit Go.Proofs.YtohhobcipfmkbaaW.PrintWords Go.Proofs.YtohhobcipfmkbaaW.PrintMore Go.Proofs.YtohhobcipfmkbaaW.PrintLast Go.Proofs.Ytohhobcipfmkbaa.U Go.Proofs.Ytohhobcipfmkbaa.PClusterFinest Go.Proofs.Ytohhobcipfmkbaa.UGroups Go.Proofs.Ytohhobcipfmkbaa.UFinEv
def Both (F : Nat → Prop) (w : World) (b c : Nat) (L : List (List Int)) (J : List S33) (L2 : List (List Int)) (J2 : List S33) : Prop :=
 ∃ D E : Nat → Prop, (∀ k, D k → ¬ F k ∧ k < w.heap.size) ∧ (∀ k, E k → ¬ F k ∧ k < w.heap.size) ∧ (∀ k, D k → ¬ E k) ∧ CellsAt 51 w D b L J ∧ CellsAt 68 w E c L2 J2
variable {w W W2 : World} {F G : Nat → Prop} {b c : Nat} {L L2 : List (List Int)} {J J2 : List S33}
theorem Both.kept {S : Nat → Prop} (h : Both F w b c L J L2 J2) (hk : Kept w W S) (hS : ∀ k, S k → F k ∨ w.heap.size ≤ k) : Both F W b c L J L2 J2 := by
 obtain ⟨D, E, h1, h2, h3, h4, h5⟩ := h
 have key : ∀ (X : Nat → Prop), (∀ k, X k → ¬ F k ∧ k < w.heap.size) → ∀ k, X k → ¬ S k := fun X hX k hk' hs => (hS k hs).elim (hX k hk').1 (fun hge => by have := (hX k hk').2; omega)
 exact ⟨D, E, fun k hk' => ⟨(h1 k hk').1, Nat.lt_of_lt_of_le (h1 k hk').2 hk.1⟩, fun k hk' => ⟨(h2 k hk').1, Nat.lt_of_lt_of_le (h2 k hk').2 hk.1⟩, h3, h4.kept hk (key D h1), h5.kept hk (key E h2)⟩
theorem Both.below (h : Both F w b c L J L2 J2) (hb : Below w.heap.size w W) : Both F W b c L J L2 J2 := h.kept (S := fun _ => False) (Kept.of_below hb _) (fun _ h => h.elim)
theorem Both.mono (h : Both F w b c L J L2 J2) (hG : ∀ k, G k → F k) : Both G w b c L J L2 J2 := by
 obtain ⟨D, E, h1, h2, h3, h4, h5⟩ := h
 exact ⟨D, E, fun k hk => ⟨fun hg => (h1 k hk).1 (hG k hg), (h1 k hk).2⟩, fun k hk => ⟨fun hg => (h2 k hk).1 (hG k hg), (h2 k hk).2⟩, h3, h4, h5⟩
theorem Both.grow (h : Both F w b c L J L2 J2) (hb : Below w.heap.size w W) : Both (fun k => F k ∨ (w.heap.size ≤ k ∧ k < W.heap.size)) W b c L J L2 J2 := by
 obtain ⟨D, E, h1, h2, h3, h4, h5⟩ := h
 exact ⟨D, E, fun k hk => ⟨fun hg => hg.elim (h1 k hk).1 (fun hh => by have := (h1 k hk).2; omega), Nat.lt_of_lt_of_le (h1 k hk).2 hb.size⟩, fun k hk => ⟨fun hg => hg.elim (h2 k hk).1 (fun hh => by have := (h2 k hk).2; omega), Nat.lt_of_lt_of_le (h2 k hk).2 hb.size⟩, h3, h4.below hb, h5.below hb⟩
theorem Both.one (h : Both F w b c L J L2 J2) : ∃ D, CellsAt 51 w D b L J ∧ (∀ k, D k → ¬ F k) := by
 obtain ⟨D, E, h1, h2, h3, h4, h5⟩ := h
 exact ⟨D, h4, fun k hk => (h1 k hk).1⟩
theorem Both.two (h : Both F w b c L J L2 J2) : ∃ E, CellsAt 68 w E c L2 J2 ∧ (∀ k, E k → ¬ F k) := by
 obtain ⟨D, E, h1, h2, h3, h4, h5⟩ := h
 exact ⟨E, h5, fun k hk => (h2 k hk).1⟩
theorem Both.left {D E : Nat → Prop} {L' : List (List Int)} {J' : List S33} (hF : ∀ k, F k → k < w.heap.size) (h1 : ∀ k, D k → ¬ F k ∧ k < w.heap.size) (h2 : ∀ k, E k → ¬ F k ∧ k < w.heap.size) (h3 : ∀ k, D k → ¬ E k) (h5 : CellsAt 68 w E c L2 J2)
 (k1 : CellsAt 51 W (fun q => D q ∨ w.heap.size ≤ q) b L' J') (e1 : Eff w W D) : Both F W b c L' J' L2 J2 := by
 refine ⟨fun q => (D q ∨ w.heap.size ≤ q) ∧ q < W.heap.size, E, fun k hk => ⟨fun hf => ?_, hk.2⟩, fun k hk => ⟨(h2 k hk).1, Nat.lt_of_lt_of_le (h2 k hk).2 e1.size⟩, fun k hk he => ?_, k1.bound, h5.kept e1.kept (fun k hk hd => h3 k hd hk)⟩
 ·rcases hk.1 with hd | hge
  ·exact (h1 k hd).1 hf
  ·have := hF k hf; omega
 ·rcases hk.1 with hd | hge
  ·exact h3 k hd he
  ·have := (h2 k he).2; omega
theorem Both.right {D E : Nat → Prop} {L' : List (List Int)} {J' : List S33} (hF : ∀ k, F k → k < w.heap.size) (h1 : ∀ k, D k → ¬ F k ∧ k < w.heap.size) (h2 : ∀ k, E k → ¬ F k ∧ k < w.heap.size) (h3 : ∀ k, D k → ¬ E k) (h4 : CellsAt 51 w D b L J)
 (k2 : CellsAt 68 W (fun q => E q ∨ w.heap.size ≤ q) c L' J') (e2 : Eff w W E) : Both F W b c L J L' J' := by
 refine ⟨D, fun q => (E q ∨ w.heap.size ≤ q) ∧ q < W.heap.size, fun k hk => ⟨(h1 k hk).1, Nat.lt_of_lt_of_le (h1 k hk).2 e2.size⟩, fun k hk => ⟨fun hf => ?_, hk.2⟩, fun k hk he => ?_, h4.kept e2.kept (fun k hk hd => h3 k hk hd), k2.bound⟩
 ·rcases hk.1 with hd | hge
  ·exact (h2 k hd).1 hf
  ·have := hF k hf; omega
 ·rcases he.1 with hd | hge
  ·exact h3 k hk hd
  ·have := (h1 k hk).2; omega
def Few (n B : Nat) (L : List (List Int)) (J : List S33) : Prop := L.length = n ∧ L.flatten.length ≤ 4 * B ∧ J.length ≤ B
theorem flat_set : ∀ (L : List (List Int)) (k : Nat) (hk : k < L.length) (y : List Int), (L.set k y).flatten.length + (L[k]'hk).length = L.flatten.length + y.length
 | [], k, hk, y => absurd hk (Nat.not_lt_zero k)
 | x :: L, 0, hk, y => by
  rw [List.set_cons_zero, List.flatten_cons, List.flatten_cons, List.length_append, List.length_append, List.getElem_cons_zero]
  omega
 | x :: L, k + 1, hk, y => by
  have h := flat_set L k (by simpa using hk) y
  rw [List.set_cons_succ, List.flatten_cons, List.flatten_cons, List.length_append, List.length_append, List.getElem_cons_succ]
  omega
theorem flat_row : ∀ (L : List (List Int)) (k : Nat) (hk : k < L.length), (L[k]'hk).length ≤ L.flatten.length
 | [], k, hk => absurd hk (Nat.not_lt_zero k)
 | x :: L, 0, hk => by rw [List.flatten_cons, List.length_append, List.getElem_cons_zero]; omega
 | x :: L, k + 1, hk => by
  have h := flat_row L k (by simpa using hk)
  rw [List.flatten_cons, List.length_append, List.getElem_cons_succ]; omega
theorem Few.row {n B k : Nat} (h : Few n B L J) (hk : k < L.length) : (L[k]'hk).length ≤ 4 * B := Nat.le_trans (flat_row L k hk) h.2.1
theorem Few.set {n B k : Nat} (h : Few n B L J) (hk : k < L.length) {x : List Int} (hx : x.length ≤ (L[k]'hk).length + 4) : Few n (B + 1) (L.set k x) J := by
 refine ⟨by rw [List.length_set]; exact h.1, ?_, by have := h.2.2; omega⟩
 have := flat_set L k hk x
 have := h.2.1
 omega
theorem Few.mono {n B : Nat} (h : Few n B L J) : Few n (B + 1) L J := ⟨h.1, by have := h.2.1; omega, by have := h.2.2; omega⟩
theorem Few.join {n B : Nat} (h : Few n B L J) (s : S33) : Few n (B + 1) L (J ++ [s]) := ⟨h.1, by have := h.2.1; omega, by have := h.2.2; simp; omega⟩
theorem flat_nils : ∀ n, (List.replicate n ([] : List Int)).flatten = []
 | 0 => rfl
 | n + 1 => by rw [List.replicate_succ, List.flatten_cons, flat_nils n]; rfl
theorem Few.zero (n : Nat) : Few n 0 (List.replicate n []) [] := ⟨List.length_replicate, by rw [flat_nils]; exact Nat.le_refl _, Nat.le_refl _⟩
theorem linkStep_2 (L : List (List Int)) (q : List S45 × Nat) (g : S33) : (linkStep L q g).2 = q.2 + (rowOf L g.f0.toNat g.f1.toNat).flatten.length := rfl
theorem links_end (N : Nat) (J : List S33) (L : List (List Int)) (hL : L.length = N) : ∀ t, t ≤ N → (linksOf L (grpTo N J t).1).2 = (L.take (grpTo N J t).2).flatten.length
 | 0, _ => by simp [grpTo, linksOf]
 | t + 1, ht => by
  have ih := links_end N J L hL t (by omega)
  have hlo := grp_lo N J t (by omega)
  rw [show grpTo N J (t + 1) = UGroups.stepG N J (t + 1) (grpTo N J t) from rfl]
  unfold UGroups.stepG
  by_cases hc : t + 1 = N ∨ acrossB N J (t + 1) = false
  ·rw [if_pos hc]
   dsimp only
   unfold linksOf at ih ⊢
   rw [List.foldl_append, List.foldl_cons, List.foldl_nil]
   rw [linkStep_2, ih]
   dsimp only
   unfold rowOf
   rw [Int.toNat_natCast, Int.toNat_natCast]
   have e : L.take (t + 1) = L.take (grpTo N J t).2 ++ (L.drop (grpTo N J t).2).take (t + 1 - (grpTo N J t).2) := by
    rw [← List.take_append_drop (grpTo N J t).2 L, List.take_append, List.take_take]
    simp only [List.length_take, List.take_append_drop]
    rw [Nat.min_eq_left (a := (grpTo N J t).2) (b := L.length) (by omega), Nat.min_eq_right (by omega)]
   rw [e, List.flatten_append, List.length_append]
  ·rw [if_neg hc]
   exact ih
theorem groups_end (J : List S33) (L : List (List Int)) : (linksOf L (groups L.length J)).2 = L.flatten.length := by
 unfold groups
 rw [links_end L.length J L rfl L.length (Nat.le_refl _)]
 cases hN : L.length with
 | zero => rw [List.eq_nil_of_length_eq_zero hN]; simp
 | succ t =>
  have : (grpTo (t + 1) J (t + 1)).2 = t + 1 := by
   rw [show grpTo (t + 1) J (t + 1) = UGroups.stepG (t + 1) J (t + 1) (grpTo (t + 1) J t) from rfl]
   unfold UGroups.stepG
   rw [if_pos (.inl rfl)]
  rw [this, ← hN, List.take_length]
end Go.Proofs.Ytohhobcipfmkbaa.Cel
end
section
namespace Go.Proofs.Ytohhobcipfmkbaa.CRow
open Go.RowKit Go.ChangeShapes Go.WideShapes Go.Deep Go.Proofs.YtohhobcipfmkbaaW.PrintWords Go.Proofs.Ytohhobcipfmkbaa.PClusterFinest Go.Proofs.Ytohhobcipfmkbaa.U
structure SDo where
 op : Int
 at_ : Int
 codes : List Int
 lo : Int
 hi : Int
def DoC (w : World) (A : Option Addr) (l : List SDo) : Prop := ∀ (i : Nat) (h : i < l.length), ∃ ad A' c', A = some ad ∧ w.cell? (ad.add (i * 5)) = some (.int .i64 l[i].op) ∧ w.cell? ⟨(ad.add (i * 5)).block, (ad.add (i * 5)).off + 1, none⟩ = some (.int .i64 l[i].at_) ∧ w.cell? ⟨(ad.add (i * 5)).block, (ad.add (i * 5)).off + 2, none⟩ = some (.slice A' l[i].codes.length c') ∧ w.cell? ⟨(ad.add (i * 5)).block, (ad.add (i * 5)).off + 3, none⟩ = some (.int .i64 l[i].lo) ∧ w.cell? ⟨(ad.add (i * 5)).block, (ad.add (i * 5)).off + 4, none⟩ = some (.int .i64 l[i].hi) ∧ SL w (.slice A' l[i].codes.length c') l[i].codes
section
variable {H : Type} {enc : TypeId × Value → H} {w : World} {base : Nat} {spare : Nat → Bool} {held : Bool}
theorem cellsOf35 : Try.prog.cellsOf 35 = 5 := by kernel_rfl
theorem cellsOf31 : Try.prog.cellsOf 31 = 1 := by kernel_rfl
theorem readInts {n : Nat} {cs : List Value} {x : DataW H × List MemPlace} (h : DataW.trod enc Try.prog w base spare held n 31 cs = some x) : ∃ (xs : List Int) (A : Option Addr) (c : Nat), cs = [.slice A xs.length c] ∧ SL w (.slice A xs.length c) xs := by
 rcases open_ints Try.underlying31 Try.underlying3 cellsOf3 h with ⟨rfl, _⟩ | ⟨a, len, cap, zs, rfl, _, hl, hm, hz, _, hcell, _⟩
 ·exact ⟨[], none, 0, rfl, SLk.nil w⟩
 ·have hlz : len ≤ zs.length := by rw [hz]; split <;> omega
  have e : (zs.take len).length = len := by rw [List.length_take]; omega
  have hmax : maxLen = 9223372036854775807 := rfl
  refine ⟨zs.take len, some a, cap, by rw [e], ?_⟩
  refine ⟨_, _, rfl, by rw [e]; exact hl, rfl, by rw [e]; omega, fun hn => ⟨a, rfl, fun j p hj => ?_⟩⟩
  obtain ⟨hjl, hp⟩ := List.getElem?_eq_some_iff.1 hj
  rw [e] at hjl
  refine ⟨[.int .i64 p], rfl, rfl, fun k u hu => ?_⟩
  cases k with
  | succ k => simp at hu
  | zero =>
   obtain rfl := Option.some.inj hu
   have := hcell j (by omega)
   rw [show (Kd.int .i64).sz = 1 from rfl, Nat.mul_one, Nat.add_zero, this]
   rw [List.getElem_take] at hp
   rw [← hp, List.getD_eq_getElem?_getD, List.getElem?_eq_getElem (by omega)]
   rfl
set_option maxRecDepth 100000 in
theorem read35 {n : Nat} {cs : List Value} {x : DataW H × List MemPlace} (h : DataW.trod enc Try.prog w base spare held n 35 cs = some x) : ∃ (s : SDo) (A : Option Addr) (c : Nat), cs = [.int .i64 s.op, .int .i64 s.at_, .slice A s.codes.length c, .int .i64 s.lo, .int .i64 s.hi] ∧ SL w (.slice A s.codes.length c) s.codes := by
 obtain ⟨xs, m, _, _, hl, hlen, hf⟩ := DataW.trod_struct Try.underlying35 h
 rw [cellsOf35] at hl
 match xs, hlen with
 | [y0, y1, y2, y3], _ =>
  have h0 : DataW.trod enc Try.prog w base spare held m 3 ((cs.drop 0).take (Try.prog.cellsOf 3)) = some y0 := by simpa using hf 0 _ rfl
  have h1 : DataW.trod enc Try.prog w base spare held m 3 ((cs.drop 1).take (Try.prog.cellsOf 3)) = some y1 := by simpa using hf 1 _ rfl
  have h2 : DataW.trod enc Try.prog w base spare held m 31 ((cs.drop 2).take (Try.prog.cellsOf 31)) = some y2 := by simpa using hf 2 _ rfl
  have h3 : DataW.trod enc Try.prog w base spare held m 33 ((cs.drop 3).take (Try.prog.cellsOf 33)) = some y3 := by simpa using hf 3 _ rfl
  rw [cellsOf3] at h0 h1
  rw [cellsOf31] at h2
  rw [cellsOf33] at h3
  obtain ⟨a, ha, _⟩ := DataW.trod_int Try.underlying3 h0
  obtain ⟨b, hb, _⟩ := DataW.trod_int Try.underlying3 h1
  obtain ⟨zs, A, c, hz, hsl⟩ := readInts h2
  obtain ⟨s, hs⟩ := read33 h3
  match cs, hl with
  | [c0, c1, c2, c3, c4], _ =>
   simp at ha hb hz hs
   exact ⟨⟨a, b, zs, s.f0, s.f1⟩, A, c, by rw [ha, hb, hz, hs.1, hs.2], hsl⟩
theorem open22 {fuel : Nat} {A : Option Addr} {len cap : Nat} {x : DataW H × List MemPlace} (h : DataW.trod enc Try.prog w base (fun _ => true) held fuel 22 (Value.slice A len cap).cells.toList = some x) :
 ∃ l : List SDo, len = l.length ∧ DoC w A l ∧ l.length ≤ cap ∧ cap ≤ maxLen := by
 rcases open_slice Try.underlying22 h with ⟨hcs, _⟩ | ⟨a, len', cap', m, n, D, Pl, hcs, hb, hl, hm, hmm, hx, hi⟩
 ·simp [Value.cells] at hcs
  obtain ⟨rfl, rfl, rfl⟩ := hcs
  exact ⟨[], rfl, fun i h => absurd h (Nat.not_lt_zero i), Nat.le_refl _, Nat.zero_le _⟩
 ·simp [Value.cells] at hcs
  obtain ⟨rfl, rfl, rfl⟩ := hcs
  rw [if_pos rfl] at hmm
  subst hmm
  rw [cellsOf35] at hi
  have key : ∀ i, i < m → ∃ (s : SDo) (A' : Option Addr) (c' : Nat), (∀ j u, ([.int .i64 s.op, .int .i64 s.at_, .slice A' s.codes.length c', .int .i64 s.lo, .int .i64 s.hi] : List Value)[j]? = some u → w.cell? (a.add (i * 5 + j)) = some u) ∧ SL w (.slice A' s.codes.length c') s.codes := fun i him => by
   obtain ⟨cs', hc, ht⟩ := hi i him
   obtain ⟨s, A', c', rfl, hsl⟩ := read35 ht
   obtain ⟨_, _, hat⟩ := World.cells?_some hc
   refine ⟨s, A', c', fun j u hu => ?_, hsl⟩
   have hj : j < 5 := (List.getElem?_eq_some_iff.1 hu).1
   have := hat j hj
   rw [hu] at this
   rw [← this]
   rw [Go.Deep.add_add]
  let f : Nat → SDo := fun i => if h : i < m then (key i h).choose else ⟨0, 0, [], 0, 0⟩
  have hf : ∀ i (h : i < m), f i = (key i h).choose := fun i h => dif_pos h
  refine ⟨(List.range len).map f, by simp, fun i hil => ?_, by simpa using hl, hm⟩
  have hil' : i < len := by simpa using hil
  obtain ⟨A', c', hcells, hsl⟩ := (key i (by omega)).choose_spec
  rw [← hf i (by omega)] at hcells hsl
  have e : ((List.range len).map f)[i] = f i := by simp
  rw [e]
  refine ⟨a, A', c', rfl, ?_, ?_, ?_, ?_, ?_, hsl⟩
  ·have := hcells 0 _ rfl; rwa [Nat.add_zero] at this
  ·rw [← add_field _ _ 1 (by omega)]; exact hcells 1 _ rfl
  ·rw [← add_field _ _ 2 (by omega)]; exact hcells 2 _ rfl
  ·rw [← add_field _ _ 3 (by omega)]; exact hcells 3 _ rfl
  ·rw [← add_field _ _ 4 (by omega)]; exact hcells 4 _ rfl
end
end Go.Proofs.Ytohhobcipfmkbaa.CRow
end
